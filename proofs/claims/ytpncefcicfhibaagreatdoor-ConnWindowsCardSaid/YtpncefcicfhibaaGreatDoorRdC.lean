import Derived.Test.YtpncefcicfhibaaGreatDoorEvE
import Derived.Test.YtpncefcicfhibaaGreatDoorRdB
set_option linter.unusedVariables false
set_option linter.unusedSimpArgs false
set_option linter.unusedSectionVars false
set_option linter.unusedVariables false
set_option linter.unusedSimpArgs false
namespace Go.Proofs.YtpncefcicfhibaaGreatDoor
open Go hiding Fn
open Ev tab
attribute [local irreducible] EvP EvD EvL EvC evGds evLs C.run sK bK gK pK fK lpB stepD

/-- a reader's row -/
def rowR (most : Int) (pre : List Nat) (bv : V) (sc co : Int) : List V := [.it .i64 most, .st pre, bv, .it .i64 sc, .it .i64 co, .it .i64 0]
/-- a reader's object -/
def RdO (hp : Hp) (Q : Nat) (most : Int) (pre : List Nat) (bv : V) (sc co : Int) : Prop := hget hp Q = some ⟨6, false, [rowR most pre bv sc co]⟩

theorem fail_ok {hp : Hp} {Q : Nat} {most c sc co : Int} {pre : List Nat} {bv : V} (hg : RdO hp Q most pre bv sc co) (hlim : hp.lim ≤ Q) :
    EvC F false 81 [.pt Q 0 0, .it .i64 c] hp (.ret (.tu []) (hset (hset hp Q (some ⟨6, false, [rowR most pre bv 2 c]⟩)) Q (some ⟨6, false, [rowR most pre .ns 2 c]⟩))) := by
  have hg : hget hp Q = some ⟨6, false, [rowR most pre bv sc co]⟩ := hg
  refine EvC.ofRw d81 rfl rfl rfl ?_
  refine X.fn ?_
  refine X.run ?_
  exact X.fin (fun _ => rfl) rfl rfl

/-- what a frame is told of: the head's numbers, the payload -/
def nOf (b : List Int) : Int := b[0]?.getD 0 * 65536 + b[1]?.getD 0 * 256 + b[2]?.getD 0
def sOf (b : List Int) : Int := b[5]?.getD 0 % 128 * 16777216 + b[6]?.getD 0 * 65536 + b[7]?.getD 0 * 256 + b[8]?.getD 0
def Bytes (l : List Int) : Prop := ∀ n, n ∈ l → 0 ≤ n ∧ n ≤ 255
theorem Bytes.get {l : List Int} (h : Bytes l) (j : Nat) : 0 ≤ l[j]?.getD 0 ∧ l[j]?.getD 0 ≤ 255 := by
  cases e : l[j]? with
  | none => exact ⟨by simp, by simp⟩
  | some x => exact h x (List.mem_of_getElem? e)
theorem Bytes.drop {l : List Int} (h : Bytes l) (n : Nat) : Bytes (l.drop n) := fun x hx => h x (List.mem_of_mem_drop hx)
theorem Bytes.append {a b : List Int} (h : Bytes a) (h' : Bytes b) : Bytes (a ++ b) := fun x hx => by
  rcases List.mem_append.1 hx with q | q
  · exact h x q
  · exact h' x q

theorem next_short {hp : Hp} {Q : Nat} {most sc co : Int} {pre : List Nat} {bv : V} {buf : List Int} (hg : RdO hp Q most pre bv sc co) (hB : By hp bv buf) (hs : buf.length < 9) :
    EvC F false 63 [.pt Q 0 0] hp (.ret (.tu [.ag [.it .i64 0, .it .i64 0, .it .i64 0, .ns], .bo false]) hp) := by
  have hg : hget hp Q = some ⟨6, false, [rowR most pre bv sc co]⟩ := hg
  have hlen := hB.len
  have hlp := hB.lp
  refine EvC.ofRw d63 rfl rfl rfl ?_
  refine X.fn ?_
  refine X.run ?_
  exact X.fin1 (fun _ => rfl) rfl rfl rfl

set_option maxHeartbeats 4000000 in
theorem next_long {hp : Hp} {Q : Nat} {most sc co : Int} {pre : List Nat} {bv : V} {buf : List Int} (hg : RdO hp Q most pre bv sc co) (hB : By hp bv buf) (hs : 9 ≤ buf.length) (hby : Bytes buf) (hlim : hp.lim ≤ Q) (hn : most < nOf buf) :
    EvC F false 63 [.pt Q 0 0] hp (.ret (.tu [.ag [.it .i64 0, .it .i64 0, .it .i64 0, .ns], .bo false]) (hset (hset hp Q (some ⟨6, false, [rowR most pre bv 2 6]⟩)) Q (some ⟨6, false, [rowR most pre .ns 2 6]⟩))) := by
  have hgo := hg
  have hg : hget hp Q = some ⟨6, false, [rowR most pre bv sc co]⟩ := hg
  have hlen := hB.len
  have hlp := hB.lp
  refine EvC.ofRw d63 rfl rfl rfl ?_
  refine X.fn ?_
  refine X.run ?_
  refine X.slcE X.w hB (a := 0) (b := 9) rfl ⟨_, rfl⟩ (by omega) (by omega) ?_
  have hvB : By hp (slv bv 0 9) (buf.take 9) := by simpa using hB.slv (a := 0) (b := 9) (by omega) (by omega)
  generalize slv bv 0 9 = hv at hvB ⊢
  have hvl := hvB.lp
  have h9l : (buf.take 9).length = 9 := by simp; omega
  refine X.run ?_
  have tk : ∀ j : Nat, j < 9 → (buf.take 9)[j]?.getD 0 = buf[j]?.getD 0 := fun j hj => by rw [List.getElem?_take_of_lt hj]
  have hnum : orI (orI (wr .i64 (wr .i64 ((buf.take 9)[0]?.getD 0) * Int.ofNat 65536)) (wr .i64 (wr .i64 ((buf.take 9)[1]?.getD 0) * Int.ofNat 256))) (wr .i64 ((buf.take 9)[2]?.getD 0)) = nOf buf := by
    rw [tk 0 (by omega), tk 1 (by omega), tk 2 (by omega)]; exact num3' (hby.get 0) (hby.get 1) (hby.get 2)
  rw [hnum]
  refine X.condTs rfl (by rw [ilt_eq]; exact decide_eq_true hn) ?_
  refine X.run ?_
  refine X.call rfl rfl (fail_ok hgo hlim) ?_
  refine X.run ?_
  exact X.fin1 (fun _ => rfl) rfl rfl rfl

set_option maxHeartbeats 4000000 in
theorem next_part {hp : Hp} {Q : Nat} {most sc co : Int} {pre : List Nat} {bv : V} {buf : List Int} (hg : RdO hp Q most pre bv sc co) (hB : By hp bv buf) (hs : 9 ≤ buf.length) (hby : Bytes buf) (hn : nOf buf ≤ most) (hm0 : buf.length < 9 + nOf buf) :
    EvC F false 63 [.pt Q 0 0] hp (.ret (.tu [.ag [.it .i64 0, .it .i64 0, .it .i64 0, .ns], .bo false]) hp) := by
  have hg : hget hp Q = some ⟨6, false, [rowR most pre bv sc co]⟩ := hg
  have hlen := hB.len
  have hlp := hB.lp
  have h0b := hby.get 0
  have h1b := hby.get 1
  have h2b := hby.get 2
  obtain ⟨m, hm⟩ := Int.eq_ofNat_of_zero_le (a := nOf buf) (by unfold nOf; omega)
  have hm2 : m ≤ 16777215 := by unfold nOf at hm; omega
  refine EvC.ofRw d63 rfl rfl rfl ?_
  refine X.fn ?_
  refine X.run ?_
  refine X.slcE X.w hB (a := 0) (b := 9) rfl ⟨_, rfl⟩ (by omega) (by omega) ?_
  have hvB : By hp (slv bv 0 9) (buf.take 9) := by simpa using hB.slv (a := 0) (b := 9) (by omega) (by omega)
  generalize slv bv 0 9 = hv at hvB ⊢
  have hvl := hvB.lp
  have h9l : (buf.take 9).length = 9 := by simp; omega
  refine X.run ?_
  have tk : ∀ j : Nat, j < 9 → (buf.take 9)[j]?.getD 0 = buf[j]?.getD 0 := fun j hj => by rw [List.getElem?_take_of_lt hj]
  have hnum : orI (orI (wr .i64 (wr .i64 ((buf.take 9)[0]?.getD 0) * Int.ofNat 65536)) (wr .i64 (wr .i64 ((buf.take 9)[1]?.getD 0) * Int.ofNat 256))) (wr .i64 ((buf.take 9)[2]?.getD 0)) = (m : Int) := by
    rw [tk 0 (by omega), tk 1 (by omega), tk 2 (by omega), ← hm]; exact num3' (hby.get 0) (hby.get 1) (hby.get 2)
  rw [hnum]
  refine X.condFs rfl (by rw [ilt_eq]; exact decide_eq_false (by omega)) ?_
  refine X.run ?_
  exact X.fin1 (fun _ => rfl) rfl rfl rfl

theorem slv_id {v : V} {a b id : Nat} (e : idOf (slv v a b) = some id) : idOf v = some id := by
  cases v <;> exact e
set_option maxHeartbeats 4000000 in
theorem next_frame {hp : Hp} {Q : Nat} {most sc co : Int} {pre : List Nat} {bv : V} {buf : List Int} (hg : RdO hp Q most pre bv sc co) (hB : By hp bv buf) (hs : 9 ≤ buf.length) (hby : Bytes buf) (hlim : hp.lim ≤ Q) (hQ : Q < hp.next) (hnl : Nil hp)
    (hn : nOf buf ≤ most) {m : Nat} (hm : nOf buf = (m : Int)) (hm0 : 9 + m ≤ buf.length) :
    ∃ pv bv' hp', EvC F false 63 [.pt Q 0 0] hp (.ret (.tu [.ag [.it .i64 (buf[3]?.getD 0), .it .i64 (buf[4]?.getD 0), .it .i64 (sOf buf), pv], .bo true]) hp') ∧
      By hp' pv ((buf.drop 9).take m) ∧ By hp' bv' (buf.drop (9 + m)) ∧ RdO hp' Q most pre bv' sc co ∧ Ex hp hp' Q ∧ Nil hp' ∧ (∀ id, idOf pv = some id → hp.next ≤ id) ∧ ∀ id, idOf bv' = some id → idOf bv = some id := by
  have hgo := hg
  have hg : hget hp Q = some ⟨6, false, [rowR most pre bv sc co]⟩ := hg
  have hlen := hB.len
  have hlp := hB.lp
  have h0b := hby.get 0
  have h1b := hby.get 1
  have h2b := hby.get 2
  have hm2 : m ≤ 16777215 := by unfold nOf at hm; omega
  have hvB : By hp (slv bv 0 9) (buf.take 9) := by simpa using hB.slv (a := 0) (b := 9) (by omega) (by omega)
  have h9l : (buf.take 9).length = 9 := by simp; omega
  have tk : ∀ j : Nat, j < 9 → (buf.take 9)[j]?.getD 0 = buf[j]?.getD 0 := fun j hj => by rw [List.getElem?_take_of_lt hj]
  have hnum : orI (orI (wr .i64 (wr .i64 ((buf.take 9)[0]?.getD 0) * Int.ofNat 65536)) (wr .i64 (wr .i64 ((buf.take 9)[1]?.getD 0) * Int.ofNat 256))) (wr .i64 ((buf.take 9)[2]?.getD 0)) = (m : Int) := by
    rw [tk 0 (by omega), tk 1 (by omega), tk 2 (by omega), ← hm]; exact num3' (hby.get 0) (hby.get 1) (hby.get 2)
  have hplB : By hp (slv bv 9 (9 + m)) ((buf.drop 9).take m) := by simpa using hB.slv (a := 9) (b := 9 + m) (by omega) (by omega)
  have e9 : wr .i64 (Int.ofNat 9 + (m : Int)) = Int.ofNat (9 + m) := by rw [wr64 (by simp; omega) (by simp; omega)]; rfl
  have he3 : wr .i64 ((buf.take 9)[3]?.getD 0) = buf[3]?.getD 0 := by have := hby.get 3; rw [tk 3 (by omega)]; exact wr64 (by omega) (by omega)
  have he4 : wr .i64 ((buf.take 9)[4]?.getD 0) = buf[4]?.getD 0 := by have := hby.get 4; rw [tk 4 (by omega)]; exact wr64 (by omega) (by omega)
  have hstr : orI (orI (orI (wr .i64 (wr .i64 (andI ((buf.take 9)[5]?.getD 0) (Int.ofNat 127)) * Int.ofNat 16777216)) (wr .i64 (wr .i64 ((buf.take 9)[6]?.getD 0) * Int.ofNat 65536))) (wr .i64 (wr .i64 ((buf.take 9)[7]?.getD 0) * Int.ofNat 256))) (wr .i64 ((buf.take 9)[8]?.getD 0)) = sOf buf := by
    rw [tk 5 (by omega), tk 6 (by omega), tk 7 (by omega), tk 8 (by omega)]; exact num4' (hby.get 5) (hby.get 6) (hby.get 7) (hby.get 8)
  have hgA := aph_get hnl ((buf.drop 9).take m) hg
  have hB' : By (aph hp ((buf.drop 9).take m)) bv buf := hB.mono (aph_ex hnl _ Q) (fun b hb => by rw [hg] at hb; cases hb; exact (by decide : (6 : Nat) ≠ 1))
  have hcB := hB'.slv (a := 9 + m) (b := buf.length) (by omega) (by omega)
  rw [show (buf.drop (9 + m)).take (buf.length - (9 + m)) = buf.drop (9 + m) from List.take_of_length_le (by simp)] at hcB
  refine ⟨apv hp ((buf.drop 9).take m), slv bv (9 + m) buf.length, hset (aph hp ((buf.drop 9).take m)) Q (some ⟨6, false, [rowR most pre (slv bv (9 + m) buf.length) sc co]⟩), ?_, ?_⟩
  · refine EvC.ofRw d63 rfl rfl rfl ?_
    refine X.fn ?_
    refine X.run ?_
    refine X.slcE X.w hB (a := 0) (b := 9) rfl ⟨_, rfl⟩ (by omega) (by omega) ?_
    refine X.run ?_
    rw [hnum]
    refine X.condFs rfl (by rw [ilt_eq]; exact decide_eq_false (by omega)) ?_
    refine X.run ?_
    refine X.slcE X.w hB (a := 9) (b := 9 + m) ⟨_, rfl⟩ ⟨_, congrArg (V.it .i64) e9⟩ (by omega) (by omega) ?_
    refine X.apE (v := slv bv 9 (9 + m)) X.w rfl hplB (by simp; omega) ?_
    refine X.run ?_
    refine X.stlB (w := apv hp ((buf.drop 9).take m)) rfl (apv_cells _ _) (apv_keep _ _) rfl rfl rfl (Nat.le_of_ble_eq_true rfl) rfl ?_
    refine X.run ?_
    refine X.slcE X.w hB' (a := 9 + m) (b := buf.length) ⟨_, congrArg (V.it .i64) e9⟩ rfl (by omega) (by omega) ?_
    refine X.run ?_
    refine X.stB (w := slv bv (9 + m) buf.length) rfl hcB.cells hcB.keep X.w hgA (by rw [aph_lim]; exact hlim) rfl (Nat.le_of_ble_eq_true rfl) rfl ?_
    refine X.run ?_
    refine X.stl (v := .ag [.it .i64 (wr .i64 ((buf.take 9)[3]?.getD 0)), .it .i64 (wr .i64 ((buf.take 9)[4]?.getD 0)), .it .i64 (orI (orI (orI (wr .i64 (wr .i64 (andI ((buf.take 9)[5]?.getD 0) (Int.ofNat 127)) * Int.ofNat 16777216)) (wr .i64 (wr .i64 ((buf.take 9)[6]?.getD 0) * Int.ofNat 65536))) (wr .i64 (wr .i64 ((buf.take 9)[7]?.getD 0) * Int.ofNat 256))) (wr .i64 ((buf.take 9)[8]?.getD 0))), apv hp ((buf.drop 9).take m)])
      rfl rfl rfl rfl (by simp only [V.cells, List.all_cons, List.all_nil, apv_keep]; rfl) rfl rfl rfl ?_
    refine X.run ?_
    refine X.fin1 (fun _ => rfl) rfl (Eq.trans (b := V.tu [.ag [.it .i64 (wr .i64 ((buf.take 9)[3]?.getD 0)), .it .i64 (wr .i64 ((buf.take 9)[4]?.getD 0)), .it .i64 (orI (orI (orI (wr .i64 (wr .i64 (andI ((buf.take 9)[5]?.getD 0) (Int.ofNat 127)) * Int.ofNat 16777216)) (wr .i64 (wr .i64 ((buf.take 9)[6]?.getD 0) * Int.ofNat 65536))) (wr .i64 (wr .i64 ((buf.take 9)[7]?.getD 0) * Int.ofNat 256))) (wr .i64 ((buf.take 9)[8]?.getD 0))), apv hp ((buf.drop 9).take m)], .bo true]) rfl ?_) rfl
    rw [he3, he4, hstr]
  · refine ⟨(apv_by (by omega) _).mono (Ex.set _ _ Q) (fun b hb => by rw [hgA] at hb; cases hb; exact (by decide : (6 : Nat) ≠ 1)), ?_, ?_, ?_, ?_, ?_, ?_⟩
    · exact hcB.mono (Ex.set _ _ Q) (fun b hb => by rw [hgA] at hb; cases hb; exact (by decide : (6 : Nat) ≠ 1))
    · exact hget_set _ _ _
    · exact (aph_ex hnl _ Q).trans (Ex.set _ _ Q)
    · exact (aph_nil hnl _).set (Nat.lt_of_lt_of_le hQ (aph_next _ _)) _
    · intro id e
      unfold apv at e
      split at e <;> cases e
      exact Nat.le_refl _
    · exact fun id e => slv_id e
end Go.Proofs.YtpncefcicfhibaaGreatDoor
