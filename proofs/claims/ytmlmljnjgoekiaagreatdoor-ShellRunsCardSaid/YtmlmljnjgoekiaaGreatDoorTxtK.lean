import Derived.Test.YtmlmljnjgoekiaaGreatDoorEvF
import Derived.Test.YtmlmljnjgoekiaaGreatDoorGl
import Derived.Test.YtmlmljnjgoekiaaGreatDoorTxt0
set_option linter.unusedVariables false
set_option linter.unusedSectionVars false
-- shell.text of a text that is no word, in the evaluator
namespace Go.Proofs.YtmlmljnjgoekiaaGreatDoor.txt
open Go hiding Fn
open Go.Proofs Ev
def txtFn : Ev.Fn := ⟨[.c .one], [.c .one], .rw, [.tmp 0], fun st k => match st.tm 0 with
  | .st l => .chk (beqL l [37, 50, 70]) (k (.pan (.fc 60 (.ag [.it .i64 4, .it .i64 0])) st))
  | _ => .bad⟩
theorem flt_rep {g : G} : RepA g (.fc 60 (.ag [.it .i64 4, .it .i64 0])) (.iface 60 (.agg #[.int .i64 4, .int .i64 0])) := by
  refine .fc _ _ _ rfl (.ag _ _ rfl (fun c hc => ?_) fun i c hc => ?_)
  · simp only [List.mem_cons, List.not_mem_nil, or_false] at hc
    rcases hc with rfl | rfl <;> rfl
  · match i, hc with
    | 0, hc => cases hc; exact .c _ _ (.it _ _)
    | 1, hc => cases hc; exact .c _ _ (.it _ _)
    | i + 2, hc => simp at hc
theorem bytes_of {s : ByteArray} (h : s.data.toList.map UInt8.toNat = [37, 50, 70]) : s = { data := #[37, 50, 70] } := same_str (h.trans rfl)
theorem txt_run (call : Ev.Call) (L : Nat) (hC : CallOK Tryz.prog call) : RunOK Tryz.prog call L 44 txtFn := by
  intro xs cs g hp w hgl hr ha
  unfold runF
  cases hlen : Nat.beq xs.length txtFn.ps.length with
  | false => trivial
  | true =>
  have hl2 : xs.length = 1 := Nat.eq_of_beq_eq_true hlen
  simp only [cond_true]
  obtain ⟨x, rfl⟩ : ∃ x, xs = [x] := List.length_eq_one_iff.1 hl2
  have hx := ha.rep 0 x rfl
  have hcs : cs = #[cs.getD 0 undef] := by
    have hsz : cs.size = 1 := ha.size
    apply Array.ext
    · simp [hsz]
    · intro i h1 h2
      have : i = 0 := by omega
      subst this
      simp [Array.getD, hsz]
  cases x with
  | st l =>
    obtain ⟨s, e2, hs⟩ := hx.st_inv
    rw [e2] at hcs
    have e : bodyD txtFn [.st l] hp = .chk (beqL l [37, 50, 70]) (.done (.pan (.fc 60 (.ag [.it .i64 4, .it .i64 0])) ⟨fun _ => .un, fun _ => none, hp⟩)) := rfl
    rw [e]
    simp only [Ev.run]
    cases hb : beqL l [37, 50, 70] with
    | false => trivial
    | true =>
    have hl : l = [37, 50, 70] := by rw [beqL_eq] at hb; simpa using hb
    subst hl
    have hsE := bytes_of hs
    subst hsE
    simp only [cond_true]
    show Ev.Enters Tryz.prog 44 ∧ Calls Tryz.prog 44 cs w (EndP fun cv w' g' => HR g' hp w' ∧ Evo g hp w g' hp w' ∧ RepA g' (.fc 60 (.ag [.it .i64 4, .it .i64 0])) cv ∧ isLp (.fc 60 (.ag [.it .i64 4, .it .i64 0])) = false)
    rw [hcs]
    refine ⟨⟨_, Tryz.func44, by decide +kernel, by kernel_rfl⟩, (text_f w).mono ?_⟩
    rintro _ w' ⟨rfl, rfl⟩
    have M := (MemR.ofHR hgl hr).same (w' := w.drew) rfl ⟨rfl, rfl⟩
    exact ⟨_, g, rfl, M.hr, M.evo, flt_rep, rfl⟩
  | _ => trivial
end Go.Proofs.YtmlmljnjgoekiaaGreatDoor.txt
