import Derived.Test.YtgofadnggipkpaaEvE
import Derived.Test.YtgofadnggipkpaaFeed2
set_option linter.unusedVariables false
set_option linter.unusedSimpArgs false
namespace Go.Proofs.Ytgofadnggipkpaa
open Go hiding Fn
open Ev tab
attribute [local irreducible] EvD EvL EvC evGds evLs C.run sK bK gK pK fK lpB stepD

/-- what Feed tells -/
def feedA (most : Int) (l : List Int) : List Frm × List Int × Bool := feedM most (l.length + 1) l

set_option maxHeartbeats 4000000 in
theorem feed_ok {hp : Hp} {Q : Nat} {most : Int} {bv v : V} {buf b : List Int} (hg : RdO hp Q most [] bv 0 0) (hB : By hp bv buf) (hV : By hp v b) (hby : Bytes (buf ++ b)) (hl : buf.length + b.length ≤ 40000000) (hlim : hp.lim ≤ Q) (hQ : Q < hp.next) (hN : Nil hp) :
    ∃ out bv' hp', EvC F false 14 [.pt Q 0 0, v] hp (.ret (.tu [out, .ag [.it .i64 (badS (feedA most (buf ++ b)).2.2), .it .i64 (badC (feedA most (buf ++ b)).2.2), .it .i64 0]]) hp') ∧
      FrV hp' hp.next out (feedA most (buf ++ b)).1 ∧ RdO hp' Q most [] bv' (badS (feedA most (buf ++ b)).2.2) (badC (feedA most (buf ++ b)).2.2) ∧ By hp' bv' (feedA most (buf ++ b)).2.1 ∧ Ex hp hp' Q ∧ Nil hp' := by
  have hgo := hg
  have hg : hget hp Q = some ⟨6, false, [rowR most [] bv 0 0]⟩ := hg
  have hlp := hB.lp
  have hvl := hV.lp
  have hQs : ∀ b, hget hp Q = some b → b.sz ≠ 1 := fun b hb => by rw [hg] at hb; cases hb; exact (by decide : (6 : Nat) ≠ 1)
  have hgA : hget (aph2 hp buf b) Q = some ⟨6, false, [rowR most [] bv 0 0]⟩ := aph2_get hN hg
  have hV' : By (aph hp buf) v b := hV.mono (aph_ex hN _ Q) hQs
  have hgA0 := aph_get hN buf hg
  have hcB : By (aph2 hp buf b) (apv2 hp buf b) (buf ++ b) := apv2_by (by omega)
  let hpE : Hp := hset (aph2 hp buf b) Q (some ⟨6, false, [rowR most [] (apv2 hp buf b) 0 0]⟩)
  have hEE : Ex hp hpE Q := (aph2_ex hN Q).trans (Ex.set _ _ _)
  have hQE : Q < hpE.next := Nat.lt_of_lt_of_le hQ hEE.next
  have hNE : Nil hpE := (aph2_nil hN).set (Nat.lt_of_lt_of_le hQ aph2_next) _
  have hBE : By hpE (apv2 hp buf b) (buf ++ b) := hcB.mono (Ex.set _ _ Q) (fun b hb => by rw [hgA] at hb; cases hb; exact (by decide : (6 : Nat) ≠ 1))
  obtain ⟨tm', lo', hp', out, bv', h, a1, a2, a3, a4, a5⟩ := feed_loop (hpE := hpE) hQE hNE ((buf ++ b).length + 1) (buf ++ b) (apv2 hp buf b) .ns [] (tmOf [(0, .pt Q 0 0), (5, .lp 5 0), (6, .ns)]) (lset (fun _ => none) 5 [.it .i64 0, .it .i64 0, .it .i64 0]) hpE
    (Ex.refl _ _) (by omega) (by simp; omega) hby (hget_set _ _ _) hBE (.inl ⟨rfl, rfl⟩) (by simp; omega) (by rw [hEE.lim]; exact hlim) hQE hNE rfl rfl
  refine ⟨out, bv', hp', ?_, ?_, a2, a3, hEE.trans a4, a5⟩
  · have hol := a1.lp
    have a2' : hget hp' Q = some ⟨6, false, [rowR most [] bv' (badS (feedM most ((buf ++ b).length + 1) (buf ++ b)).2.2) (badC (feedM most ((buf ++ b).length + 1) (buf ++ b)).2.2)]⟩ := a2
    refine EvC.ofRw d14 rfl rfl rfl ?_
    refine X.fn ?_
    repeat (first | refine X.lpb ?_ | refine X.seq ?_ | refine X.skip ?_ | refine X.ret ?_ | refine X.exit ?_ | refine X.blk ?_ | refine X.sn ?_ | refine X.se ?_ | refine X.sr ?_ | refine X.bn ?_ | refine X.br ?_ | refine X.bh ?_ | refine X.bm rfl ?_ | refine X.pn ?_ | refine X.gn ?_ | refine X.g0 ?_ | refine X.ln ?_ | refine X.finn ?_ | refine X.reg0 X.r ?_ | refine X.reg1 X.r ?_ | refine X.gt rfl ?_ | refine X.orr X.w X.w ?_ | refine X.andr X.w X.w ?_ | refine X.shl X.w X.w X.r ?_ | (refine X.iaE X.w (by assumption) rfl ?_ ?_; · exact X.s) | (refine X.ldE rfl (by assumption) ?_ ?_; · exact X.s) | (refine X.iav X.w X.w ?_ X.g ?_; · exact X.s) | refine X.o0 (fun _ _ => rfl) ?_ | (refine X.o1 (fun _ _ => rfl) ?_ ?_; · exact X.s) | (refine X.o2 (fun _ _ => rfl) ?_ ?_ ?_; iterate 2 (· exact X.s)) | (refine X.o3 (fun _ _ => rfl) ?_ ?_ ?_ ?_; iterate 3 (· exact X.s)) | refine X.pickT rfl (fun _ => rfl) ?_ | refine X.pickF rfl (fun _ => rfl) ?_ | refine X.condT rfl ?_ | refine X.condF rfl ?_ | refine X.g1T rfl ?_ | refine X.g1F rfl ?_ | refine X.alc X.fr ?_ | refine X.box X.w rfl rfl ?_ | refine X.stl X.w rfl rfl rfl rfl rfl rfl rfl ?_ | (refine X.apf X.w X.w X.e X.h rfl rfl ?_ ?_ X.w ?_; iterate 2 (· exact X.s)) | refine X.bsl rfl X.w ?_ | refine X.alh X.w ?_ | refine X.bxh X.w rfl X.w ?_ | (refine X.mks X.w X.w ?_ ?_ ?_ (by decide) X.w X.wi ?_; iterate 3 (· exact X.s)) | (refine X.cpy X.w X.w (elems_vs _) X.a rfl rfl ?_ ?_ ?_; iterate 2 (· exact X.s)) | (refine X.iah X.w X.w X.a rfl ?_ ?_; · exact X.s) | (refine X.stp X.w X.w X.a rfl X.li rfl rfl rfl ?_ X.g ?_ ?_; iterate 2 (· exact X.s)) | (refine X.ldp X.w X.a ?_ X.g ?_ rfl ?_; iterate 2 (· exact X.s)) | refine X.len X.w X.ra ?_ | ((first | refine X.condTs rfl ?_ ?_ | refine X.g1Ts rfl ?_ ?_ | refine X.pickTs rfl ?_ (fun _ => rfl) ?_); · exact X.s) | ((first | refine X.condFs rfl ?_ ?_ | refine X.g1Fs rfl ?_ ?_ | refine X.pickFs rfl ?_ (fun _ => rfl) ?_); · exact X.s) | refine X.ext X.w rfl X.ra ?_ | refine X.mov X.w X.l ?_)
    refine X.call (ys := [.pt Q 0 0, v]) rfl (by show (isLp _ || (isLp v || false)) = false; rw [hvl]; rfl) (begin_ok hgo hV) ?_
    repeat (first | refine X.lpb ?_ | refine X.seq ?_ | refine X.skip ?_ | refine X.ret ?_ | refine X.exit ?_ | refine X.blk ?_ | refine X.sn ?_ | refine X.se ?_ | refine X.sr ?_ | refine X.bn ?_ | refine X.br ?_ | refine X.bh ?_ | refine X.bm rfl ?_ | refine X.pn ?_ | refine X.gn ?_ | refine X.g0 ?_ | refine X.ln ?_ | refine X.finn ?_ | refine X.reg0 X.r ?_ | refine X.reg1 X.r ?_ | refine X.gt rfl ?_ | refine X.orr X.w X.w ?_ | refine X.andr X.w X.w ?_ | refine X.shl X.w X.w X.r ?_ | (refine X.iaE X.w (by assumption) rfl ?_ ?_; · exact X.s) | (refine X.ldE rfl (by assumption) ?_ ?_; · exact X.s) | (refine X.iav X.w X.w ?_ X.g ?_; · exact X.s) | refine X.o0 (fun _ _ => rfl) ?_ | (refine X.o1 (fun _ _ => rfl) ?_ ?_; · exact X.s) | (refine X.o2 (fun _ _ => rfl) ?_ ?_ ?_; iterate 2 (· exact X.s)) | (refine X.o3 (fun _ _ => rfl) ?_ ?_ ?_ ?_; iterate 3 (· exact X.s)) | refine X.pickT rfl (fun _ => rfl) ?_ | refine X.pickF rfl (fun _ => rfl) ?_ | refine X.condT rfl ?_ | refine X.condF rfl ?_ | refine X.g1T rfl ?_ | refine X.g1F rfl ?_ | refine X.alc X.fr ?_ | refine X.box X.w rfl rfl ?_ | refine X.stl X.w rfl rfl rfl rfl rfl rfl rfl ?_ | (refine X.apf X.w X.w X.e X.h rfl rfl ?_ ?_ X.w ?_; iterate 2 (· exact X.s)) | refine X.bsl rfl X.w ?_ | refine X.alh X.w ?_ | refine X.bxh X.w rfl X.w ?_ | (refine X.mks X.w X.w ?_ ?_ ?_ (by decide) X.w X.wi ?_; iterate 3 (· exact X.s)) | (refine X.cpy X.w X.w (elems_vs _) X.a rfl rfl ?_ ?_ ?_; iterate 2 (· exact X.s)) | (refine X.iah X.w X.w X.a rfl ?_ ?_; · exact X.s) | (refine X.stp X.w X.w X.a rfl X.li rfl rfl rfl ?_ X.g ?_ ?_; iterate 2 (· exact X.s)) | (refine X.ldp X.w X.a ?_ X.g ?_ rfl ?_; iterate 2 (· exact X.s)) | refine X.len X.w X.ra ?_ | ((first | refine X.condTs rfl ?_ ?_ | refine X.g1Ts rfl ?_ ?_ | refine X.pickTs rfl ?_ (fun _ => rfl) ?_); · exact X.s) | ((first | refine X.condFs rfl ?_ ?_ | refine X.g1Fs rfl ?_ ?_ | refine X.pickFs rfl ?_ (fun _ => rfl) ?_); · exact X.s) | refine X.ext X.w rfl X.ra ?_ | refine X.mov X.w X.l ?_)
    refine X.apE (v := bv) X.w rfl hB (by simp; omega) ?_
    repeat (first | refine X.lpb ?_ | refine X.seq ?_ | refine X.skip ?_ | refine X.ret ?_ | refine X.exit ?_ | refine X.blk ?_ | refine X.sn ?_ | refine X.se ?_ | refine X.sr ?_ | refine X.bn ?_ | refine X.br ?_ | refine X.bh ?_ | refine X.bm rfl ?_ | refine X.pn ?_ | refine X.gn ?_ | refine X.g0 ?_ | refine X.ln ?_ | refine X.finn ?_ | refine X.reg0 X.r ?_ | refine X.reg1 X.r ?_ | refine X.gt rfl ?_ | refine X.orr X.w X.w ?_ | refine X.andr X.w X.w ?_ | refine X.shl X.w X.w X.r ?_ | (refine X.iaE X.w (by assumption) rfl ?_ ?_; · exact X.s) | (refine X.ldE rfl (by assumption) ?_ ?_; · exact X.s) | (refine X.iav X.w X.w ?_ X.g ?_; · exact X.s) | refine X.o0 (fun _ _ => rfl) ?_ | (refine X.o1 (fun _ _ => rfl) ?_ ?_; · exact X.s) | (refine X.o2 (fun _ _ => rfl) ?_ ?_ ?_; iterate 2 (· exact X.s)) | (refine X.o3 (fun _ _ => rfl) ?_ ?_ ?_ ?_; iterate 3 (· exact X.s)) | refine X.pickT rfl (fun _ => rfl) ?_ | refine X.pickF rfl (fun _ => rfl) ?_ | refine X.condT rfl ?_ | refine X.condF rfl ?_ | refine X.g1T rfl ?_ | refine X.g1F rfl ?_ | refine X.alc X.fr ?_ | refine X.box X.w rfl rfl ?_ | refine X.stl X.w rfl rfl rfl rfl rfl rfl rfl ?_ | (refine X.apf X.w X.w X.e X.h rfl rfl ?_ ?_ X.w ?_; iterate 2 (· exact X.s)) | refine X.bsl rfl X.w ?_ | refine X.alh X.w ?_ | refine X.bxh X.w rfl X.w ?_ | (refine X.mks X.w X.w ?_ ?_ ?_ (by decide) X.w X.wi ?_; iterate 3 (· exact X.s)) | (refine X.cpy X.w X.w (elems_vs _) X.a rfl rfl ?_ ?_ ?_; iterate 2 (· exact X.s)) | (refine X.iah X.w X.w X.a rfl ?_ ?_; · exact X.s) | (refine X.stp X.w X.w X.a rfl X.li rfl rfl rfl ?_ X.g ?_ ?_; iterate 2 (· exact X.s)) | (refine X.ldp X.w X.a ?_ X.g ?_ rfl ?_; iterate 2 (· exact X.s)) | refine X.len X.w X.ra ?_ | ((first | refine X.condTs rfl ?_ ?_ | refine X.g1Ts rfl ?_ ?_ | refine X.pickTs rfl ?_ (fun _ => rfl) ?_); · exact X.s) | ((first | refine X.condFs rfl ?_ ?_ | refine X.g1Fs rfl ?_ ?_ | refine X.pickFs rfl ?_ (fun _ => rfl) ?_); · exact X.s) | refine X.ext X.w rfl X.ra ?_ | refine X.mov X.w X.l ?_)
    refine X.apE2 rfl rfl hV' (by omega) rfl (by omega) ?_
    repeat (first | refine X.lpb ?_ | refine X.seq ?_ | refine X.skip ?_ | refine X.ret ?_ | refine X.exit ?_ | refine X.blk ?_ | refine X.sn ?_ | refine X.se ?_ | refine X.sr ?_ | refine X.bn ?_ | refine X.br ?_ | refine X.bh ?_ | refine X.bm rfl ?_ | refine X.pn ?_ | refine X.gn ?_ | refine X.g0 ?_ | refine X.ln ?_ | refine X.finn ?_ | refine X.reg0 X.r ?_ | refine X.reg1 X.r ?_ | refine X.gt rfl ?_ | refine X.orr X.w X.w ?_ | refine X.andr X.w X.w ?_ | refine X.shl X.w X.w X.r ?_ | (refine X.iaE X.w (by assumption) rfl ?_ ?_; · exact X.s) | (refine X.ldE rfl (by assumption) ?_ ?_; · exact X.s) | (refine X.iav X.w X.w ?_ X.g ?_; · exact X.s) | refine X.o0 (fun _ _ => rfl) ?_ | (refine X.o1 (fun _ _ => rfl) ?_ ?_; · exact X.s) | (refine X.o2 (fun _ _ => rfl) ?_ ?_ ?_; iterate 2 (· exact X.s)) | (refine X.o3 (fun _ _ => rfl) ?_ ?_ ?_ ?_; iterate 3 (· exact X.s)) | refine X.pickT rfl (fun _ => rfl) ?_ | refine X.pickF rfl (fun _ => rfl) ?_ | refine X.condT rfl ?_ | refine X.condF rfl ?_ | refine X.g1T rfl ?_ | refine X.g1F rfl ?_ | refine X.alc X.fr ?_ | refine X.box X.w rfl rfl ?_ | refine X.stl X.w rfl rfl rfl rfl rfl rfl rfl ?_ | (refine X.apf X.w X.w X.e X.h rfl rfl ?_ ?_ X.w ?_; iterate 2 (· exact X.s)) | refine X.bsl rfl X.w ?_ | refine X.alh X.w ?_ | refine X.bxh X.w rfl X.w ?_ | (refine X.mks X.w X.w ?_ ?_ ?_ (by decide) X.w X.wi ?_; iterate 3 (· exact X.s)) | (refine X.cpy X.w X.w (elems_vs _) X.a rfl rfl ?_ ?_ ?_; iterate 2 (· exact X.s)) | (refine X.iah X.w X.w X.a rfl ?_ ?_; · exact X.s) | (refine X.stp X.w X.w X.a rfl X.li rfl rfl rfl ?_ X.g ?_ ?_; iterate 2 (· exact X.s)) | (refine X.ldp X.w X.a ?_ X.g ?_ rfl ?_; iterate 2 (· exact X.s)) | refine X.len X.w X.ra ?_ | ((first | refine X.condTs rfl ?_ ?_ | refine X.g1Ts rfl ?_ ?_ | refine X.pickTs rfl ?_ (fun _ => rfl) ?_); · exact X.s) | ((first | refine X.condFs rfl ?_ ?_ | refine X.g1Fs rfl ?_ ?_ | refine X.pickFs rfl ?_ (fun _ => rfl) ?_); · exact X.s) | refine X.ext X.w rfl X.ra ?_ | refine X.mov X.w X.l ?_)
    refine X.stB (w := apv2 hp buf b) rfl hcB.cells hcB.keep X.w hgA (by rw [aph2_lim]; exact hlim) rfl (Nat.le_of_ble_eq_true rfl) rfl ?_
    repeat (first | refine X.lpb ?_ | refine X.seq ?_ | refine X.skip ?_ | refine X.ret ?_ | refine X.exit ?_ | refine X.blk ?_ | refine X.sn ?_ | refine X.se ?_ | refine X.sr ?_ | refine X.bn ?_ | refine X.br ?_ | refine X.bh ?_ | refine X.bm rfl ?_ | refine X.pn ?_ | refine X.gn ?_ | refine X.g0 ?_ | refine X.ln ?_ | refine X.finn ?_ | refine X.reg0 X.r ?_ | refine X.reg1 X.r ?_ | refine X.gt rfl ?_ | refine X.orr X.w X.w ?_ | refine X.andr X.w X.w ?_ | refine X.shl X.w X.w X.r ?_ | (refine X.iaE X.w (by assumption) rfl ?_ ?_; · exact X.s) | (refine X.ldE rfl (by assumption) ?_ ?_; · exact X.s) | (refine X.iav X.w X.w ?_ X.g ?_; · exact X.s) | refine X.o0 (fun _ _ => rfl) ?_ | (refine X.o1 (fun _ _ => rfl) ?_ ?_; · exact X.s) | (refine X.o2 (fun _ _ => rfl) ?_ ?_ ?_; iterate 2 (· exact X.s)) | (refine X.o3 (fun _ _ => rfl) ?_ ?_ ?_ ?_; iterate 3 (· exact X.s)) | refine X.pickT rfl (fun _ => rfl) ?_ | refine X.pickF rfl (fun _ => rfl) ?_ | refine X.condT rfl ?_ | refine X.condF rfl ?_ | refine X.g1T rfl ?_ | refine X.g1F rfl ?_ | refine X.alc X.fr ?_ | refine X.box X.w rfl rfl ?_ | refine X.stl X.w rfl rfl rfl rfl rfl rfl rfl ?_ | (refine X.apf X.w X.w X.e X.h rfl rfl ?_ ?_ X.w ?_; iterate 2 (· exact X.s)) | refine X.bsl rfl X.w ?_ | refine X.alh X.w ?_ | refine X.bxh X.w rfl X.w ?_ | (refine X.mks X.w X.w ?_ ?_ ?_ (by decide) X.w X.wi ?_; iterate 3 (· exact X.s)) | (refine X.cpy X.w X.w (elems_vs _) X.a rfl rfl ?_ ?_ ?_; iterate 2 (· exact X.s)) | (refine X.iah X.w X.w X.a rfl ?_ ?_; · exact X.s) | (refine X.stp X.w X.w X.a rfl X.li rfl rfl rfl ?_ X.g ?_ ?_; iterate 2 (· exact X.s)) | (refine X.ldp X.w X.a ?_ X.g ?_ rfl ?_; iterate 2 (· exact X.s)) | refine X.len X.w X.ra ?_ | ((first | refine X.condTs rfl ?_ ?_ | refine X.g1Ts rfl ?_ ?_ | refine X.pickTs rfl ?_ (fun _ => rfl) ?_); · exact X.s) | ((first | refine X.condFs rfl ?_ ?_ | refine X.g1Fs rfl ?_ ?_ | refine X.pickFs rfl ?_ (fun _ => rfl) ?_); · exact X.s) | refine X.ext X.w rfl X.ra ?_ | refine X.mov X.w X.l ?_)
    refine X.loop (h.congr rfl rfl rfl) ?_
    repeat (first | refine X.lpb ?_ | refine X.seq ?_ | refine X.skip ?_ | refine X.ret ?_ | refine X.exit ?_ | refine X.blk ?_ | refine X.sn ?_ | refine X.se ?_ | refine X.sr ?_ | refine X.bn ?_ | refine X.br ?_ | refine X.bh ?_ | refine X.bm rfl ?_ | refine X.pn ?_ | refine X.gn ?_ | refine X.g0 ?_ | refine X.ln ?_ | refine X.finn ?_ | refine X.reg0 X.r ?_ | refine X.reg1 X.r ?_ | refine X.gt rfl ?_ | refine X.orr X.w X.w ?_ | refine X.andr X.w X.w ?_ | refine X.shl X.w X.w X.r ?_ | (refine X.iaE X.w (by assumption) rfl ?_ ?_; · exact X.s) | (refine X.ldE rfl (by assumption) ?_ ?_; · exact X.s) | (refine X.iav X.w X.w ?_ X.g ?_; · exact X.s) | refine X.o0 (fun _ _ => rfl) ?_ | (refine X.o1 (fun _ _ => rfl) ?_ ?_; · exact X.s) | (refine X.o2 (fun _ _ => rfl) ?_ ?_ ?_; iterate 2 (· exact X.s)) | (refine X.o3 (fun _ _ => rfl) ?_ ?_ ?_ ?_; iterate 3 (· exact X.s)) | refine X.pickT rfl (fun _ => rfl) ?_ | refine X.pickF rfl (fun _ => rfl) ?_ | refine X.condT rfl ?_ | refine X.condF rfl ?_ | refine X.g1T rfl ?_ | refine X.g1F rfl ?_ | refine X.alc X.fr ?_ | refine X.box X.w rfl rfl ?_ | refine X.stl X.w rfl rfl rfl rfl rfl rfl rfl ?_ | (refine X.apf X.w X.w X.e X.h rfl rfl ?_ ?_ X.w ?_; iterate 2 (· exact X.s)) | refine X.bsl rfl X.w ?_ | refine X.alh X.w ?_ | refine X.bxh X.w rfl X.w ?_ | (refine X.mks X.w X.w ?_ ?_ ?_ (by decide) X.w X.wi ?_; iterate 3 (· exact X.s)) | (refine X.cpy X.w X.w (elems_vs _) X.a rfl rfl ?_ ?_ ?_; iterate 2 (· exact X.s)) | (refine X.iah X.w X.w X.a rfl ?_ ?_; · exact X.s) | (refine X.stp X.w X.w X.a rfl X.li rfl rfl rfl ?_ X.g ?_ ?_; iterate 2 (· exact X.s)) | (refine X.ldp X.w X.a ?_ X.g ?_ rfl ?_; iterate 2 (· exact X.s)) | refine X.len X.w X.ra ?_ | ((first | refine X.condTs rfl ?_ ?_ | refine X.g1Ts rfl ?_ ?_ | refine X.pickTs rfl ?_ (fun _ => rfl) ?_); · exact X.s) | ((first | refine X.condFs rfl ?_ ?_ | refine X.g1Fs rfl ?_ ?_ | refine X.pickFs rfl ?_ (fun _ => rfl) ?_); · exact X.s) | refine X.ext X.w rfl X.ra ?_ | refine X.mov X.w X.l ?_)
    exact X.fin_tc rfl rfl hol rfl rfl rfl rfl
  · rcases a1 with ⟨q, r⟩ | ⟨id, rows, q, q0, q1, q2, q3, q4⟩
    · exact .inl ⟨q, r⟩
    · exact .inr ⟨id, rows, q, Nat.le_trans hEE.next q0, q1, q2, q3, q4⟩
/-- behind an error nothing is read -/
theorem feed_bad {hp : Hp} {Q : Nat} {most c : Int} {pre : List Nat} {bv v : V} (hg : RdO hp Q most pre bv 2 c) : EvC F false 14 [.pt Q 0 0, v] hp (.ret (.tu [.ns, .ag [.it .i64 2, .it .i64 c, .it .i64 0]]) hp) := by
  have hg : hget hp Q = some ⟨6, false, [rowR most pre bv 2 c]⟩ := hg
  refine EvC.ofRw d14 rfl rfl rfl ?_
  refine X.fn ?_
  repeat (first | refine X.lpb ?_ | refine X.seq ?_ | refine X.skip ?_ | refine X.ret ?_ | refine X.exit ?_ | refine X.blk ?_ | refine X.sn ?_ | refine X.se ?_ | refine X.sr ?_ | refine X.bn ?_ | refine X.br ?_ | refine X.bh ?_ | refine X.bm rfl ?_ | refine X.pn ?_ | refine X.gn ?_ | refine X.g0 ?_ | refine X.ln ?_ | refine X.finn ?_ | refine X.reg0 X.r ?_ | refine X.reg1 X.r ?_ | refine X.gt rfl ?_ | refine X.orr X.w X.w ?_ | refine X.andr X.w X.w ?_ | refine X.shl X.w X.w X.r ?_ | (refine X.iaE X.w (by assumption) rfl ?_ ?_; · exact X.s) | (refine X.ldE rfl (by assumption) ?_ ?_; · exact X.s) | (refine X.iav X.w X.w ?_ X.g ?_; · exact X.s) | refine X.o0 (fun _ _ => rfl) ?_ | (refine X.o1 (fun _ _ => rfl) ?_ ?_; · exact X.s) | (refine X.o2 (fun _ _ => rfl) ?_ ?_ ?_; iterate 2 (· exact X.s)) | (refine X.o3 (fun _ _ => rfl) ?_ ?_ ?_ ?_; iterate 3 (· exact X.s)) | refine X.pickT rfl (fun _ => rfl) ?_ | refine X.pickF rfl (fun _ => rfl) ?_ | refine X.condT rfl ?_ | refine X.condF rfl ?_ | refine X.g1T rfl ?_ | refine X.g1F rfl ?_ | refine X.alc X.fr ?_ | refine X.box X.w rfl rfl ?_ | refine X.stl X.w rfl rfl rfl rfl rfl rfl rfl ?_ | (refine X.apf X.w X.w X.e X.h rfl rfl ?_ ?_ X.w ?_; iterate 2 (· exact X.s)) | refine X.bsl rfl X.w ?_ | refine X.alh X.w ?_ | refine X.bxh X.w rfl X.w ?_ | (refine X.mks X.w X.w ?_ ?_ ?_ (by decide) X.w X.wi ?_; iterate 3 (· exact X.s)) | (refine X.cpy X.w X.w (elems_vs _) X.a rfl rfl ?_ ?_ ?_; iterate 2 (· exact X.s)) | (refine X.iah X.w X.w X.a rfl ?_ ?_; · exact X.s) | (refine X.stp X.w X.w X.a rfl X.li rfl rfl rfl ?_ X.g ?_ ?_; iterate 2 (· exact X.s)) | (refine X.ldp X.w X.a ?_ X.g ?_ rfl ?_; iterate 2 (· exact X.s)) | refine X.len X.w X.ra ?_ | ((first | refine X.condTs rfl ?_ ?_ | refine X.g1Ts rfl ?_ ?_ | refine X.pickTs rfl ?_ (fun _ => rfl) ?_); · exact X.s) | ((first | refine X.condFs rfl ?_ ?_ | refine X.g1Fs rfl ?_ ?_ | refine X.pickFs rfl ?_ (fun _ => rfl) ?_); · exact X.s) | refine X.ext X.w rfl X.ra ?_ | refine X.mov X.w X.l ?_)
  exact X.fin_tc rfl rfl rfl rfl rfl rfl rfl

/-- one frame, whole, its stream's highest bit whatever it is -/
theorem feed_one (most ty fl s x : Int) (p : List Int) (hx : x % 128 = s / 16777216) (hs : 0 ≤ s ∧ s ≤ 2147483647) (hp : p.length ≤ 16777215) :
    feedA most ([(p.length : Int) / 65536 % 256, (p.length : Int) / 256 % 256, (p.length : Int) % 256, ty, fl, x, s / 65536 % 256, s / 256 % 256, s % 256] ++ p) =
      if most < p.length then ([], [], true) else ([(ty, fl, s, p)], [], false) := by
  have hn : nOf ([(p.length : Int) / 65536 % 256, (p.length : Int) / 256 % 256, (p.length : Int) % 256, ty, fl, x, s / 65536 % 256, s / 256 % 256, s % 256] ++ p) = p.length := by
    show (p.length : Int) / 65536 % 256 * 65536 + (p.length : Int) / 256 % 256 * 256 + (p.length : Int) % 256 = p.length
    omega
  have hso : sOf ([(p.length : Int) / 65536 % 256, (p.length : Int) / 256 % 256, (p.length : Int) % 256, ty, fl, x, s / 65536 % 256, s / 256 % 256, s % 256] ++ p) = s := by
    show x % 128 * 16777216 + s / 65536 % 256 * 65536 + s / 256 % 256 * 256 + s % 256 = s
    rw [hx]; omega
  have hl : ([(p.length : Int) / 65536 % 256, (p.length : Int) / 256 % 256, (p.length : Int) % 256, ty, fl, x, s / 65536 % 256, s / 256 % 256, s % 256] ++ p).length = p.length + 9 := by simp
  unfold feedA
  rw [hl]
  unfold feedM
  rw [hl, hn, hso]
  rw [if_neg (by omega)]
  by_cases hm : most < p.length
  · rw [if_pos hm, if_pos hm]
  · rw [if_neg hm, if_neg hm, if_neg (by omega)]
    have e1 : (([(p.length : Int) / 65536 % 256, (p.length : Int) / 256 % 256, (p.length : Int) % 256, ty, fl, x, s / 65536 % 256, s / 256 % 256, s % 256] ++ p).drop (9 + (p.length : Int).toNat)) = [] := by
      apply List.drop_eq_nil_of_le; rw [hl]; omega
    have e2 : (([(p.length : Int) / 65536 % 256, (p.length : Int) / 256 % 256, (p.length : Int) % 256, ty, fl, x, s / 65536 % 256, s / 256 % 256, s % 256] ++ p).drop 9).take (p.length : Int).toNat = p := by
      show p.take (p.length : Int).toNat = p
      apply List.take_of_length_le; omega
    rw [e1, e2]
    have e3 : feedM most (p.length + 9) [] = ([], [], false) := by
      show feedM most ((p.length + 8) + 1) [] = _
      unfold feedM; rfl
    rw [e3]
    rfl

theorem closeCs_fr {hp hp1 : Hp} {a b c : Int} {pv : V} {p : List Int} (h : ∀ n, p.length + 5 ≤ n → closeC n (.sl [.one]) pv hp = some (.vs 1 (bs p), hp1)) : ∀ n, p.length + 10 ≤ n →
    closeCs n [.one, .one, .one, .sl [.one]] [.it .i64 a, .it .i64 b, .it .i64 c, pv] hp = some (fr a b c p, hp1) := by
  intro n hn
  obtain ⟨m, rfl⟩ : ∃ m, n = m + 1 + 1 + 1 + 1 + 1 := ⟨n - 5, by omega⟩
  have i1 : ∀ (k : Nat) (x : Int) (hp : Hp), closeC (k + 1) .one (.it .i64 x) hp = some (.it .i64 x, hp) := fun _ _ _ => rfl
  simp only [closeCs, i1, h (m + 1) (by omega)]
  rfl

/-- frames, closed -/
def frs (l : List Frm) : List (List V) := l.map fun f => fr f.1 f.2.1 f.2.2.1 f.2.2.2
def frsz : List Frm → Nat
  | [] => 0
  | f :: r => f.2.2.2.length + 12 + frsz r
theorem closeEs_fr : ∀ (rows : List (List V)) (fs : List Frm) (hp : Hp), FrR hp rows fs → ∃ hp', Ez hp hp' ∧ ∀ n, frsz fs + 10 ≤ n → closeEs n [.one, .one, .one, .sl [.one]] rows hp = some (frs fs, hp') := by
  intro rows
  induction rows with
  | nil =>
    intro fs hp h
    cases h
    refine ⟨hp, .refl _, fun n hn => ?_⟩
    cases n with
    | zero => omega
    | succ n => rfl
  | cons row rows ih =>
    intro fs hp h
    cases h with
    | cons hb hr =>
      obtain ⟨hp1, z1, c1⟩ := close_by hb
      obtain ⟨hp2, z2, c2⟩ := ih _ hp1 (hr.mono1 z1.to1)
      refine ⟨hp2, z1.trans z2, fun n hn => ?_⟩
      simp only [frsz] at hn
      cases n with
      | zero => omega
      | succ n =>
        simp only [closeEs, closeCs_fr c1 n (by omega), c2 n (by omega)]
        rfl
theorem close_frv {hp : Hp} {z : Nat} {v : V} {fs : List Frm} (h : FrV hp z v fs) : ∃ hp', Ez hp hp' ∧ ∀ n, frsz fs + 12 ≤ n → closeC n (.sl [.one, .one, .one, .sl [.one]]) v hp = some (.vs 4 (frs fs), hp') := by
  rcases h with ⟨rfl, rfl⟩ | ⟨id, rows, rfl, q0, q1, q2, q3, q4⟩
  · refine ⟨hp, .refl _, fun n hn => ?_⟩
    cases n with
    | zero => omega
    | succ n => rfl
  · have hl := q4.length
    have z0 : Ez hp (hset hp id (some ⟨4, true, rows⟩)) := .freeze q3 (by decide)
    obtain ⟨hp2, z2, c2⟩ := closeEs_fr rows fs _ (q4.mono1 z0.to1)
    refine ⟨hp2, z0.trans z2, fun n hn => ?_⟩
    cases n with
    | zero => omega
    | succ n =>
      have hlt : Nat.blt id hp.lim = false := by rw [bltD]; simp; omega
      have hq2 : Nat.ble (0 + fs.length) rows.length = true := by rw [bleD]; simp [hl]
      have hfz : Ev.freeze hp id = hset hp id (some ⟨4, true, rows⟩) := by unfold Ev.freeze; rw [q3]
      have ht : (rows.drop 0).take fs.length = rows := by rw [List.drop_zero]; apply List.take_of_length_le; omega
      simp only [closeC, q3, hlt, cond_false, hq2, hfz, cond_true, ht, c2 n (by omega)]
      rfl

theorem feed_put (most ty fl s : Int) (p : List Int) (hr : rightB ty fl s p.length = true) : feedA most (h9 ty fl s p.length ++ p) = if most < p.length then ([], [], true) else ([(ty, fl, s, p)], [], false) := by
  simp only [rightB, decide_eq_true_eq] at hr
  have e1 : ty % 256 = ty := by omega
  have e2 : fl % 256 = fl := by omega
  have := feed_one most ty fl s (s / 16777216 % 256) p (by omega) (by omega) (by omega)
  unfold h9
  rw [e1, e2]
  exact this
theorem h9_bytes (ty fl s : Int) (n : Nat) : Bytes (h9 ty fl s n) := by
  intro x hx
  simp only [h9, List.mem_cons, List.not_mem_nil, or_false] at hx
  rcases hx with rfl | rfl | rfl | rfl | rfl | rfl | rfl | rfl | rfl <;> omega
end Go.Proofs.Ytgofadnggipkpaa
