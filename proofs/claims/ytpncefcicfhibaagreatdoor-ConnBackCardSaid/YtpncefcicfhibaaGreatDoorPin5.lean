import Derived.Test.YtpncefcicfhibaaGreatDoorEvE
import Derived.Test.YtpncefcicfhibaaGreatDoorPin4
import Derived.Test.YtpncefcicfhibaaGreatDoorRdP
import Derived.Test.YtpncefcicfhibaaGreatDoorRdS
set_option linter.unusedVariables false
set_option linter.unusedSimpArgs false
-- ConnPings (EvHp EvOwn)
namespace Go.Proofs.YtpncefcicfhibaaGreatDoor
open Go hiding Fn
open Ev tab
attribute [local irreducible] EvP EvD EvL EvC evGds evLs C.run sK bK gK pK fK lpB stepD
theorem feed_h9 (fl : Int) (p : List Int) (h8 : p.length = 8) (hf : fl = 0 ∨ fl = 1) : feedA 16384 (h9 6 fl 0 p.length ++ p) = ([(6, fl, 0, p)], [], false) := by
  have := feed_put 16384 6 fl 0 p (by unfold rightB; rw [h8]; rcases hf with rfl | rfl <;> rfl)
  rw [this, h8]
  rfl
/-- a PING fed -/
theorem feed_ping {hp : Hp} {c : CnV} {q p : List Int} {v : V} (hS : PS hp c q) (fl : Int) (ack : Bool) (hp8 : p.length = 8) (hf : (fl = 0 ∧ ack = false) ∨ (fl = 1 ∧ ack = true)) (hl : q.length + 17 ≤ 262144) (hV : By hp v (h9 6 fl 0 p.length ++ p)) (hby : Bytes (h9 6 fl 0 p.length ++ p)) :
    ∃ w hp3, EvC F false 17 [.pt 0 0 0, v] hp (.ret w hp3) ∧ (w = .ns ∧ ∃ c3, PS hp3 c3 (q ++ pong ack p)) := by
  obtain ⟨w, hp3, h1, hp2, c2, h2, h3, h4, h5, h6, h7, h8⟩ := feed_frame hS.cn hS.rd hV hby (by simp [h9]; omega) hS.lim hS.next hS.nil (feed_h9 fl p hp8 (hf.imp And.left And.left)) (frame_ping hS fl ack hp8 hf hl)
  refine ⟨w, hp3, h1, by rw [h2, h8], c2.calm, ?_⟩
  subst h4
  have hcR : hget hp2 0 = some ⟨26, false, [rowC c2]⟩ := h3
  have hQs : ∀ b, hget hp2 0 = some b → b.sz ≠ 1 := fun b hb => by rw [hcR] at hb; cases hb; exact (by decide : (26 : Nat) ≠ 1)
  obtain ⟨bv, r1, r2⟩ := h7.rd
  refine ⟨hget_set _ _ _, ow_set h7.q fun id e => by have := h7.q0 id e; omega, h7.q0, ⟨bv, ?_, r2.mono (Ex.set _ _ 0) hQs⟩, h7.nil.set (by have := h7.next; omega) _, by rw [hset_lim]; exact h7.lim, by rw [hset_next]; exact h7.next⟩
  show hget _ _ = _
  rw [hget_other (by decide)]; exact r1
/-- eight bytes of a number -/
def eight (n : Int) : List Int := [wr .u8 n, wr .u8 (n.fdiv (Int.ofNat 256)), wr .u8 (n.fdiv (Int.ofNat 65536)), wr .u8 (n.fdiv (Int.ofNat 16777216)), 1, 2, 3, 4]
theorem eight_len (n : Int) : (eight n).length = 8 := rfl
theorem wr8_b (n : Int) : 0 ≤ wr .u8 n ∧ wr .u8 n ≤ 255 := by rw [wr8m]; omega
theorem eight_bytes (n : Int) : Bytes (eight n) := by
  intro x hx
  simp only [eight, List.mem_cons, List.not_mem_nil, or_false] at hx
  rcases hx with rfl | rfl | rfl | rfl | rfl | rfl | rfl | rfl
  · exact wr8_b _
  · exact wr8_b _
  · exact wr8_b _
  · exact wr8_b _
  all_goals omega
/-- what waits behind some rounds -/
def pongs (l : List Int) (as' : List Bool) : Nat → List Int
  | 0 => []
  | i + 1 => pongs l as' i ++ pong (as'.getD i false) (eight (l.getD i 0))
theorem pong_len (a : Bool) (n : Int) : (pong a (eight n)).length ≤ 17 := by
  unfold pong; split
  · simp
  · simp [h9, eight]
theorem pongs_len (l : List Int) (as' : List Bool) : ∀ i, (pongs l as' i).length ≤ 17 * i
  | 0 => by simp [pongs]
  | i + 1 => by
    have := pongs_len l as' i
    have := pong_len (as'.getD i false) (l.getD i 0)
    simp only [pongs, List.length_append]; omega
def WV (w : V) (q : List Int) : Prop := (w = .ns ∧ q = []) ∨ w = .vs 1 (bs q)
def us (l : List Int) : List (List V) := l.map fun n => [.it .u32 n]
def bls (l : List Bool) : List (List V) := l.map fun b => [.bo b]
theorem us_length (l : List Int) : (us l).length = l.length := by simp [us]
theorem bls_length (l : List Bool) : (bls l).length = l.length := by simp [bls]
theorem us_getD {l : List Int} {i : Nat} (h : i < l.length) : (us l).getD i [] = [.it .u32 (l.getD i 0)] := by simp [us, List.getD, h]
theorem bls_getD {l : List Bool} {i : Nat} (h : i < l.length) : (bls l).getD i [] = [.bo (l.getD i false)] := by simp [bls, List.getD, h]
theorem rput6 (q p : List Int) (hp : p.length = 8) (hq : q.length ≤ 1000) (fl : Int) (hf : fl = 0 ∨ fl = 1) : EvP F 24 c24 [.vs 1 (bs q), .ag (fr 6 fl 0 p)] [.vs 1 (bs (q ++ (h9 6 fl 0 p.length ++ p)))] := by
  have := (rput_ok q 6 fl 0 p (by omega)).toP
  have e : putL q 6 fl 0 p = q ++ (h9 6 fl 0 p.length ++ p) := by
    have : rightB 6 fl 0 p.length = true := by unfold rightB; rw [hp]; rcases hf with rfl | rfl <;> rfl
    unfold putL; rw [this]; simp
  rw [e] at this
  exact this
theorem ow_by {hp : Hp} {v : V} {q : List Int} (h : Ow hp v 1 (bs q)) : By hp v q := by
  rcases h with ⟨rfl, e⟩ | ⟨id, rfl, q1, q2, q3⟩
  · have : q = [] := by cases q with
      | nil => rfl
      | cons a l => simp [bs] at e
    subst this; exact .ns _
  · have := By.new (fr := false) q1 q2 q3
    rw [bs_length]; exact this
set_option maxHeartbeats 16000000 in
theorem out_all {hp : Hp} {c : CnV} {q : List Int} (hS : PS hp c q) (hl : q.length ≤ 1000000) : ∃ w hp', EvC F false 13 [.pt 0 0 0, .it .i64 1048576] hp (.ret w hp') ∧ (By hp' w q ∧ ∃ c', CnO hp' c') := by
  have hcR : hget hp 0 = some ⟨26, false, [rowC c]⟩ := hS.cn
  have hR := hS.q.sl.rd
  have ql := hS.q.lp
  have qn := hS.q.len
  have hlim := hS.lim
  have hnx := hS.next
  rw [bs_length] at qn
  have hB : By hp c.q q := ow_by hS.q
  have hN := hS.nil
  have hQs : ∀ b, hget hp 0 = some b → b.sz ≠ 1 := fun b hb => by rw [hcR] at hb; cases hb; exact (by decide : (26 : Nat) ≠ 1)
  have hlt : ilt (Int.ofNat q.length) 1048576 = true := by rw [ilt_eq]; exact decide_eq_true (by simp only [Int.ofNat_eq_natCast]; omega)
  have em : (bif ilt (Int.ofNat q.length) 1048576 then Int.ofNat q.length else 1048576) = Int.ofNat q.length := by rw [hlt]; rfl
  have hB1 := hB.slv (a := 0) (b := q.length) (Nat.zero_le _) (Nat.le_refl _)
  rw [List.drop_zero, Nat.sub_zero, List.take_length] at hB1
  have hgA := aph_get hN q hcR
  have hBA : By (aph hp q) c.q q := hB.mono (aph_ex hN q 0) hQs
  have hB2 := hBA.slv (a := q.length) (b := q.length) (Nat.le_refl _) (Nat.le_refl _)
  rw [Nat.sub_self, List.take_zero] at hB2
  have hlA : (aph hp q).lim = 0 := by rw [aph_lim]; exact hlim
  have a1 := apv_lp hp q
  have a2 := apv_by (hp := hp) (by omega) q
  have hQa : ∀ b, hget (aph hp q) 0 = some b → b.sz ≠ 1 := fun b hb => by rw [hgA] at hb; cases hb; exact (by decide : (26 : Nat) ≠ 1)
  refine EvC.ofQ d13 rfl rfl rfl ?_
  repeat (first | refine EvQ.run ?_ | refine EvQ.fin X.rs ?_ | refine EvQ.fin1 (fun _ => rfl) rfl ?_)
  refine EvQ.lift (fun _ zn => X.slcE X.w hB (a := 0) (b := q.length) rfl ⟨_, congrArg (V.it .i64) em⟩ (Nat.zero_le _) (Nat.le_refl _) zn) ?_
  refine EvQ.lift (fun _ zn => X.apE (v := slv c.q 0 q.length) X.w rfl hB1 (by simp only [Nat.mul_one]; omega) zn) ?_
  generalize apv hp q = z at *
  repeat (first | refine EvQ.run ?_ | refine EvQ.fin X.rs ?_ | refine EvQ.fin1 (fun _ => rfl) rfl ?_)
  refine EvQ.lift (fun _ zn => X.slcE X.w hBA (a := q.length) (b := q.length) ⟨_, congrArg (V.it .i64) em⟩ rfl (Nat.le_refl _) (Nat.le_refl _) zn) ?_
  refine EvQ.lift (fun _ zn => X.apE (v := slv c.q q.length q.length) X.w rfl hB2 (by simp) zn) ?_
  rw [show apv (aph hp q) [] = V.ns from if_pos rfl, show aph (aph hp q) [] = aph hp q from if_pos rfl]
  repeat (first | refine EvQ.run ?_ | refine EvQ.fin X.rs ?_ | refine EvQ.fin1 (fun _ => rfl) rfl ?_)
  exact ⟨_, _, rfl, a2.mono (Ex.set _ _ 0) hQa, ⟨c.pw, .ns, c.out, c.inn, c.ways, c.last, c.mute, c.ev⟩, hget_set _ _ _⟩
end Go.Proofs.YtpncefcicfhibaaGreatDoor
