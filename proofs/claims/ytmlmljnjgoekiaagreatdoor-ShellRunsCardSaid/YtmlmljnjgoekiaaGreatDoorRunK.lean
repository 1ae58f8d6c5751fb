import Derived.Test.YtmlmljnjgoekiaaGreatDoorRunH
set_option linter.unusedVariables false
set_option linter.unusedSectionVars false
-- shell.Run of one line: what the evaluator says is so
namespace Go.Proofs.YtmlmljnjgoekiaaGreatDoor.run
open Go hiding Fn
open Go.Proofs Ev
theorem e26 : ren156.f 166 = 26 := rfl
theorem e30 : ren156.f 169 = 30 := rfl
theorem e73 : ren156.t 72 = 73 := rfl
theorem e5 : ren156.t 5 = 5 := rfl
theorem ws26 (b : Nat) (s : ByteArray) (w : World) (hb : w.heap[b]? = some (.cells #[.pointer none, .slice none 0 0] 73 (0, 0))) (hlen : s.size ≤ 140737488355328) :
    Calls Tryz.prog 26 #[.pointer (some ⟨b, 0, none⟩), .string s] w fun e w' => e = .returned (.tuple #[.int .i64 s.size, .nilIface]) ∧ (∃ v, w'.heap[b]? = some (.cells #[.pointer (some ⟨b, 0, none⟩), v] 73 (0, 0)) ∧ w'.ownsRow w.heap.size 5 1 v s.size (Lib.strCells s) ∧ v.ownBlock ≠ some b) ∧ ButOne b w w' :=
  bld_ws lays156 extra156 e26 e73 e5 b s w hb hlen
theorem st30 (B b : Nat) (l : List UInt8) (w : World) (h : Lib.IsBuilder 73 5 B b (Lib.byteCells l) w) (h0 : l ≠ []) :
    Calls Tryz.prog 30 #[.pointer (some ⟨b, 0, none⟩)] w fun e w' => e = .returned (.string ⟨l.toArray⟩) ∧ Go.RowKit.Below B w w' := bld_st lays156 extra156 e30 e73 e5 B b l w h h0
theorem tup3 {g : G} {x y z : V} {cv : Value} (h : RepA g (.tu [x, y, z]) cv) : ∃ a b c, cv = .tuple #[a, b, c] ∧ RepA g x a ∧ RepA g y b ∧ RepA g z c := by
  obtain ⟨arr, e, n, _, r⟩ := h.tu_inv
  refine ⟨_, _, _, by rw [e, ← arr_three n], r 0 x rfl, r 1 y rfl, r 2 z rfl⟩
theorem tup2 {g : G} {x y : V} {cv : Value} (h : RepA g (.tu [x, y]) cv) : ∃ a b, cv = .tuple #[a, b] ∧ RepA g x a ∧ RepA g y b ∧ isLp x = false := by
  obtain ⟨arr, e, n, l, r⟩ := h.tu_inv
  refine ⟨_, _, by rw [e, ← arr_two n], r 0 x rfl, r 1 y rfl, l x (by simp)⟩
theorem ag3 {g : G} {x y z : V} {cv : Value} (h : RepA g (.ag [x, y, z]) cv) : ∃ a b c, cv = .agg #[a, b, c] ∧ RepA g x a ∧ RepA g y b ∧ RepA g z c := by
  obtain ⟨arr, e, n, _, r⟩ := h.ag_inv
  refine ⟨_, _, _, by rw [e, ← arr_three n], r 0 x rfl, r 1 y rfl, r 2 z rfl⟩
theorem res_rep {g : G} (s : ByteArray) (l : List Nat) (h : s.data.toList.map UInt8.toNat = l) : RepA g (.tu [.st l, .it .i64 0, .it .i64 0]) (.tuple #[.string s, .int .i64 0, .int .i64 0]) := by
  refine .tu _ _ rfl (fun c hc => by simp at hc; rcases hc with rfl | rfl <;> rfl) fun i c hc => ?_
  match i, hc with
  | 0, hc => cases hc; exact .c _ _ (.st _ _ h)
  | 1, hc => cases hc; exact .c _ _ (.it _ _)
  | 2, hc => cases hc; exact .c _ _ (.it _ _)
theorem heard_inv {g : G} {v : V} {cv : Value} (h : heardB v = true) (r : RepA g v cv) : ∃ a c, cv = .slice a 0 c := by
  unfold heardB at h
  split at h
  · exact ⟨_, _, r.ns_inv⟩
  · obtain ⟨a, c, b, o, f, e, _⟩ := r.vs_inv
    exact ⟨a, c, e⟩
  · cases h
set_option maxRecDepth 100000 in
set_option maxHeartbeats 4000000 in
theorem run_run (call : Ev.Call) (L : Nat) (hC : CallOK Tryz.prog call) : RunOK Tryz.prog call L 9 runFn := by
  intro xs cs g hp w hgl hr ha
  unfold runF
  cases hlen : Nat.beq xs.length runFn.ps.length with
  | false => trivial
  | true =>
  have hl2 : xs.length = 2 := Nat.eq_of_beq_eq_true hlen
  simp only [cond_true]
  obtain ⟨x, y, rfl⟩ : ∃ x y, xs = [x, y] := by
    match xs, hl2 with
    | [x, y], _ => exact ⟨x, y, rfl⟩
  have hx := ha.rep 0 x rfl
  have hy := ha.rep 1 y rfl
  have hcs := arr_two ha.size
  cases x with
  | ag c7 =>
    cases y with
    | st l =>
      obtain ⟨arr, e1, n1, k1, r1⟩ := hx.ag_inv
      obtain ⟨s, e2, hs⟩ := hy.st_inv
      rw [e1, e2] at hcs
      have e : bodyD runFn [.ag c7, .st l] hp = .chk (isH0 hp) (.chk (Nat.beq c7.length 7) (runD c7 l hp fun v hp' => resultsD ⟨upd (argT [.ag c7, .st l]) 0 v, fun _ => none, hp'⟩ [.tmp 0] fun vs => .done (.ret ⟨fun _ => tuple vs, fun _ => none, hp'⟩))) := rfl
      rw [e]
      simp only [Ev.run]
      cases h0e : isH0 hp with
      | false => trivial
      | true =>
      have := isH0_eq h0e
      subst this
      cases h7 : Nat.beq c7.length 7 with
      | false => trivial
      | true =>
      have h7 : c7.length = 7 := Nat.eq_of_beq_eq_true h7
      simp only [cond_true]
      unfold runD
      simp only [Ev.run, forceL_eq]
      cases q1 : call false 23 [.st l] h0 with
      | bad => trivial
      | pan => trivial
      | ret v1 hp1 =>
      cases s1 : stepsR v1 with
      | none => simp only [s1, Ev.run]; trivial
      | some r =>
      simp only [s1, Ev.run, forceL_eq]
      cases b1 : rowB r with
      | false => trivial
      | true =>
      simp only [cond_true]
      cases q2 : call false 24 [.ag c7] hp1 with
      | bad => trivial
      | pan => trivial
      | ret v2 hp2 =>
      cases s2 : newR v2 with
      | none => simp only [s2, Ev.run]; trivial
      | some p =>
      simp only [s2, Ev.run, forceL_eq]
      cases q3 : call false 25 [p, .ag r] hp2 with
      | bad => trivial
      | pan => trivial
      | ret v3 hp3 =>
      cases s3 : doR v3 with
      | none => simp only [s3, Ev.run]; trivial
      | some gg =>
      obtain ⟨g1, g2⟩ := gg
      simp only [s3, Ev.run, forceL_eq]
      cases q4 : call false 27 [.st [121, 101, 115], .vs 1 [[.it .i64 g1], [.it .i64 g2]]] hp3 with
      | bad => trivial
      | pan => trivial
      | ret v4 hp4 =>
      cases s4 : strR v4 with
      | none => simp only [s4, Ev.run]; trivial
      | some t =>
      simp only [s4, Ev.run, forceL_eq]
      cases q5 : call false 28 [p] hp4 with
      | bad => trivial
      | pan => trivial
      | ret v5 hp5 =>
      simp only [Ev.run]
      cases b5 : heardB v5 with
      | false => trivial
      | true =>
      simp only [cond_true]
      show Ev.Enters Tryz.prog 9 ∧ Calls Tryz.prog 9 cs w (EndR fun cv w' g' => HR g' ⟨hp5.next, 0, .e⟩ w' ∧ Evo g h0 w g' ⟨hp5.next, 0, .e⟩ w' ∧ RepA g' (.tu [.st (t ++ [10]), .it .i64 0, .it .i64 0]) cv ∧ isLp (.tu [.st (t ++ [10]), .it .i64 0, .it .i64 0]) = false)
      obtain ⟨c0, c1, c2, c3, c4, c5, c6, harr⟩ : ∃ c0 c1 c2 c3 c4 c5 c6, arr = #[c0, c1, c2, c3, c4, c5, c6] := ⟨_, _, _, _, _, _, _, arr_seven (n1.trans h7)⟩
      subst harr
      have rcfg : RepA g (.ag c7) (.agg #[c0, c1, c2, c3, c4, c5, c6]) := .ag _ _ n1 k1 r1
      rw [hcs]
      refine ⟨⟨_, Tryz.func9, by decide +kernel, by kernel_rfl⟩, run_real c0 c1 c2 c3 c4 c5 c6 s w _ ?_⟩
      have S0 := St0.first hr hgl
      have S1 := S0.alloc (.cells #[c0, c1, c2, c3, c4, c5, c6] 40)
      have hc1 := hC false 23 [.st l] #[.string s] _ g _ _ h0 _ (MemR.ofHR S1.gl S1.hr) (args1 rfl (.c _ _ (.st _ _ hs)))
      rw [q1] at hc1
      refine hc1.2.mono ?_
      rintro _ w2 ⟨cv, g1', rfl, m1, le1, rp1, -⟩
      have S2 := S1.evo m1.hr m1.evo
      obtain ⟨Pc, bc⟩ := (hr.pv (Nat.le_refl _)).evo (by rw [alloc_size]; omega) m1.evo
      rw [alloc_new] at bc
      obtain ⟨a, rfl⟩ := stepsR_inv s1
      obtain ⟨x1, x2, x3, rfl, rx1, rx2, rx3⟩ := tup3 rp1
      obtain ⟨aa, cap, b, o, f, rfl, -, v2', v3', v4', v5'⟩ := rx1.vs_inv
      have haa := v2' (by simp)
      subst haa
      have rx2 := rx2.it_inv
      have rx3 := rx3.it_inv
      subst rx2
      subst rx3
      refine ⟨b, o, cap, a, rfl, ⟨by rw [Lib.cell_of_heap bc]; rfl, by rw [Lib.cell_of_heap bc]; rfl, by rw [Lib.cell_of_heap bc]; rfl, by rw [Lib.cell_of_heap bc]; rfl, by rw [Lib.cell_of_heap bc]; rfl, by rw [Lib.cell_of_heap bc]; rfl, by rw [Lib.cell_of_heap bc]; rfl⟩, ?_⟩
      have hc2 := hC false 24 [.ag c7] #[.agg #[c0, c1, c2, c3, c4, c5, c6]] _ g1' _ _ hp1 w2 (MemR.ofHR S2.gl S2.hr) (args1 rfl (rcfg.mono le1))
      rw [q2] at hc2
      refine hc2.2.mono ?_
      rintro _ w3 ⟨cv, g2', rfl, m2, le2, rp2, -⟩
      have S3 := S2.evo m2.hr m2.evo
      have e2 := newR_inv s2
      subst e2
      obtain ⟨pw, z, rfl, rpw, rz, lpp⟩ := tup2 rp2
      have rz := rz.it_inv
      subst rz
      obtain ⟨a0, a1, a2, a3, nn, es, ls, bb, rfl⟩ := rowB_inv b1
      have rj : ∀ (j : Nat) (c : V), [V.it .i64 a0, .it .i64 a1, .it .i64 a2, .it .i64 a3, .vs nn es, .st ls, .bo bb][j]? = some c → (bld0 w3).cell? ⟨b, o + j, none⟩ = some (f 0 j) ∧ RepA g2' c (f 0 j) := fun j c hj => by
        obtain ⟨k1, k2⟩ := v4' 0 j _ c rfl hj
        rw [Nat.zero_mul, Nat.add_zero] at k2
        have k3 := S3.hr.kap b (o + j) _ (le2.κ _ _ _ k2)
        exact ⟨by rw [show (bld0 w3).cell? ⟨b, o + j, none⟩ = w3.cell? ⟨b, o + j, none⟩ from cell_blk ((but_alloc w3 _).block b (cell_block k3) (by have := cell_block k3; omega)) (o + j)]; exact k3, .mono (g := g1') le2 (.c _ _ (v5' 0 j _ c rfl hj))⟩
      obtain ⟨t0, u0⟩ := rj 0 _ rfl
      obtain ⟨t1, u1⟩ := rj 1 _ rfl
      obtain ⟨t2, u2⟩ := rj 2 _ rfl
      obtain ⟨t3, u3⟩ := rj 3 _ rfl
      obtain ⟨t4, u4⟩ := rj 4 _ rfl
      obtain ⟨t5, u5⟩ := rj 5 _ rfl
      obtain ⟨t6, u6⟩ := rj 6 _ rfl
      rw [u0.it_inv] at t0
      rw [u1.it_inv] at t1
      rw [u2.it_inv] at t2
      rw [u3.it_inv] at t3
      rw [u6.bo_inv] at t6
      obtain ⟨sa, sc, _, _, _, w4', -⟩ := u4.vs_inv
      obtain ⟨sst, w5', -⟩ := u5.st_inv
      rw [w4'] at t4
      rw [w5'] at t5
      have rrow : RepA g2' (.ag [V.it .i64 a0, .it .i64 a1, .it .i64 a2, .it .i64 a3, .vs nn es, .st ls, .bo bb]) (.agg #[.int .i64 a0, .int .i64 a1, .int .i64 a2, .int .i64 a3, .slice sa es.length sc, .string sst, .bool bb]) := by
        refine .ag _ _ rfl (fun c hc => ?_) fun j c hj => ?_
        · simp only [List.mem_cons, List.not_mem_nil, or_false] at hc
          rcases hc with rfl | rfl | rfl | rfl | rfl | rfl | rfl <;> rfl
        · match j, hj with
          | 0, hj => cases hj; exact .c _ _ (.it _ _)
          | 1, hj => cases hj; exact .c _ _ (.it _ _)
          | 2, hj => cases hj; exact .c _ _ (.it _ _)
          | 3, hj => cases hj; exact .c _ _ (.it _ _)
          | 4, hj => cases hj; rw [w4'] at u4; exact u4
          | 5, hj => cases hj; rw [w5'] at u5; exact u5
          | 6, hj => cases hj; exact .c _ _ (.bo _)
      refine ⟨pw, rfl, a0, a1, a2, a3, sa, es.length, sc, sst, bb, ⟨t0, t1, t2, t3, t4, t5, t6⟩, ?_⟩
      clear t0 t1 t2 t3 t4 t5 t6 u0 u1 u2 u3 u4 u5 u6 rj
      have hn3 := S3.size
      have S4 := S3.alloc (.cells #[.pointer none, .slice none 0 0] 73)
      have Pb := S3.hr.pv (Nat.le_refl _)
      have S5 := S4.alloc (.cells #[.int .i64 a0, .int .i64 a1, .int .i64 a2, .int .i64 a3, .slice sa es.length sc, .string sst, .bool bb] 30)
      have B5 : ((bld0 w3).alloc (.cells #[.int .i64 a0, .int .i64 a1, .int .i64 a2, .int .i64 a3, .slice sa es.length sc, .string sst, .bool bb] 30)).heap[w3.heap.size]? = some (.cells #[.pointer none, .slice none 0 0] 73 (0, 0)) := by
        rw [(but_alloc (bld0 w3) _).block w3.heap.size (by rw [alloc_size]; omega) (by rw [alloc_size]; omega)]; exact alloc_new _ _
      have hc3 := hC false 25 _ #[pw, .agg #[.int .i64 a0, .int .i64 a1, .int .i64 a2, .int .i64 a3, .slice sa es.length sc, .string sst, .bool bb]] _ g2' _ _ hp2 _ (MemR.ofHR S5.gl S5.hr) (args2 lpp rpw rfl rrow)
      rw [q3] at hc3
      refine hc3.2.mono ?_
      rintro _ w4 ⟨cv, g3', rfl, m3, le3, rp3, -⟩
      have S6 := S5.evo m3.hr m3.evo
      obtain ⟨Pb6, B6⟩ := Pb.evo (Array.getElem?_eq_some_iff.1 B5).1 m3.evo
      rw [B5] at B6
      have e3 := doR_inv s3
      subst e3
      obtain ⟨y1, y2, y3, rfl, ry1, ry2, ry3⟩ := ag3 rp3
      have ry1 := ry1.bo_inv
      have ry2 := ry2.it_inv
      have ry3 := ry3.it_inv
      subst ry1
      subst ry2
      subst ry3
      refine ⟨g1, g2, rfl, ?_⟩
      have S7 := S6.alloc (.cells #[.bool true, .int .i64 g1, .int .i64 g2] 75)
      have hl4 := (Array.getElem?_eq_some_iff.1 B6).1
      have B7 : (w4.alloc (.cells #[.bool true, .int .i64 g1, .int .i64 g2] 75)).heap[w3.heap.size]? = some (.cells #[.pointer none, .slice none 0 0] 73 (0, 0)) := by
        rw [(but_alloc w4 _).block w3.heap.size hl4 (by omega)]; exact B6
      have hz7 := alloc_size w4 (.cells #[.bool true, .int .i64 g1, .int .i64 g2] 75)
      generalize w4.alloc (.cells #[.bool true, .int .i64 g1, .int .i64 g2] 75) = W7 at *
      obtain ⟨mm, lek⟩ := (MemR.ofHR S7.gl S7.hr).imm (grow_alloc W7 #[.int .i64 g1, .int .i64 g2] 3)
      have S8 := S7.evo mm.hr mm.evo
      obtain ⟨Pb8, B8⟩ := Pb6.evo (Array.getElem?_eq_some_iff.1 B7).1 mm.evo
      rw [B7] at B8
      have rvs : RepA (known g3' W7.heap.size #[.int .i64 g1, .int .i64 g2]) (.vs 1 [[.it .i64 g1], [.it .i64 g2]]) (.slice (some ⟨w4.heap.size + 1, 0, none⟩) 2 2) := by
        rw [← hz7]
        exact pair_vs (by simp [known]) (by simp [known])
      have hc4 := hC false 27 [.st [121, 101, 115], .vs 1 [[.it .i64 g1], [.it .i64 g2]]] #[.string ⟨#[121, 101, 115]⟩, .slice (some ⟨w4.heap.size + 1, 0, none⟩) 2 2] _ _ _ _ hp3 _ (MemR.ofHR S8.gl S8.hr) (args2 rfl (.c _ _ (.st _ _ rfl)) rfl rvs)
      rw [q4] at hc4
      refine hc4.2.mono ?_
      rintro _ w5 ⟨cv, g4', rfl, m4, le4, rp4, -⟩
      have S9 := S8.evo m4.hr m4.evo
      obtain ⟨Pb9, B9⟩ := Pb8.evo (Array.getElem?_eq_some_iff.1 B8).1 m4.evo
      rw [B8] at B9
      obtain ⟨e4, ht⟩ := strR_inv s4
      subst e4
      obtain ⟨ts, rfl, hts⟩ := rp4.st_inv
      have hsz : ts.size = t.length := by rw [← hts, List.length_map, Array.length_toList]; rfl
      have hsz2 : (ts ++ ⟨#[10]⟩).size = t.length + 1 := by rw [ByteArray.size_append, hsz]; rfl
      refine ⟨ts, rfl, by omega, ?_⟩
      have hle : (ts ++ ⟨#[10]⟩).size ≤ 140737488355328 := by rw [hsz2]; omega
      have ws := ws26 w3.heap.size (ts ++ ⟨#[10]⟩) w5 B9 hle
      refine ws.mono ?_
      rintro _ w6 ⟨rfl, ⟨vv, hv1, hv2, hv3⟩, hB⟩
      refine ⟨⟨_, rfl⟩, ?_⟩
      have S10 := S9.but Pb9 hn3 (fun es c x => by rw [B9] at x; cases x) hB
      have hc5 := hC false 28 [p] #[pw] _ g4' _ _ hp4 w6 (MemR.ofHR S10.gl S10.hr) (args1 lpp (((rpw.mono le3).mono lek).mono le4))
      rw [q5] at hc5
      refine hc5.2.mono ?_
      rintro _ w7 ⟨cv, g5', rfl, m5, le5, rp5, -⟩
      obtain ⟨sa5, sc5, rfl⟩ := heard_inv b5 rp5
      refine ⟨_, _, rfl, ?_⟩
      have S11 := S10.evo m5.hr m5.evo
      obtain ⟨-, B11⟩ := Pb9.evo (Array.getElem?_eq_some_iff.1 hv1).1 m5.evo
      rw [hv1] at B11
      rcases hv2.2 with ⟨_, hz⟩ | ⟨gb, cap, cur, rfl, hge, hgb, h1, h2, h3, h4⟩
      · omega
      obtain ⟨-, Bg⟩ := (S9.hr.pv hge).evo (Array.getElem?_eq_some_iff.1 hgb).1 m5.evo
      rw [hgb] at Bg
      have h9 := S9.size
      have hB7 : Lib.IsBuilder 73 5 w.heap.size w3.heap.size (Lib.byteCells (ts ++ ⟨#[10]⟩).data.toList) w7 :=
        .inr ⟨hn3, _, B11, ⟨by rw [Nat.mul_one], .inr ⟨gb, cap, cur, by rw [show (Lib.byteCells (ts ++ ⟨#[10]⟩).data.toList).length = (ts ++ ⟨#[10]⟩).size from Lib.strCells_length _], by omega, Bg, by rw [show (Lib.byteCells (ts ++ ⟨#[10]⟩).data.toList).length = (ts ++ ⟨#[10]⟩).size from Lib.strCells_length _]; exact h1, h2, h3, by rw [show (Lib.byteCells (ts ++ ⟨#[10]⟩).data.toList).length = (ts ++ ⟨#[10]⟩).size from Lib.strCells_length _]; exact h4⟩⟩, hv3⟩
      have hne : (ts ++ ⟨#[10]⟩).data.toList ≠ [] := fun e => by
        have : (ts ++ ⟨#[10]⟩).size = 0 := by rw [← Lib.strCells_length]; unfold Lib.strCells; rw [e]; rfl
        omega
      have st := st30 w.heap.size w3.heap.size _ w7 hB7 hne
      refine st.mono ?_
      rintro _ w8 ⟨rfl, hBl⟩
      refine ⟨_, rfl, ?_⟩
      obtain ⟨f1, f2⟩ := fin_hr hr (Nat.le_trans S11.size hBl.size) ⟨hBl.os.trans S11.os.1, hBl.output.trans S11.os.2⟩ (fun k hk => (hBl.block k hk).trans (S11.blk k hk)) hp5.next
      refine ⟨_, _, rfl, f1, f2, res_rep _ _ ?_, rfl⟩
      show List.map UInt8.toNat (ts ++ ⟨#[10]⟩).data.toList = t ++ [10]
      rw [← hts]
      simp
    | _ => trivial
  | _ => trivial
end Go.Proofs.YtmlmljnjgoekiaaGreatDoor.run
