import Derived.Test.YtgofadnggipkpaaEvMaps
namespace Ev
open Go

def I.calls : I → Bool
  | .call .. | .calv .. | .pan _ => true
  | _ => false

def I.boxes : I → Bool
  | .alc _ | .box _ => true
  | _ => false

theorem field_some {P : Program} {s : TypeId} {i : Nat} {f : Field} (h : Ev.field P s i = some f) : Ev.field P s i = some f := h

section
variable {e : Env}

theorem ins_ok (h : e.St) {pol : Pol} {i : I} {d : Nat} {us : List Nat} (hi : cIns e.P pol e.o = some i) (hnc : i.calls = false) (hde : e.dst = e.o.dst) (hd : ∀ d', e.dst = some d' → d' = d)
    (hus : i.boxes = true → ∀ t, hasN e.clr t = true → t ∈ us) : Res e (i.den us e.clr d e.st) := by
  have hdd : ∀ {x}, e.o.dst = some x → e.dst = some d := fun {x} q => by
    have q' := hde.trans q
    rw [← hd x q']; exact q'
  unfold cIns at hi
  cases ho : e.o.op <;> simp only [ho, reduceCtorEq] at hi
  case move x =>
    cases hx : cA x <;> simp only [hx, Option.map_none, Option.map_some, reduceCtorEq, Option.some.injEq] at hi
    subst hi; exact ok_mov h hx (.inl ho) us d
  case assign x =>
    cases hx : cA x <;> simp only [hx, Option.map_none, Option.map_some, reduceCtorEq, Option.some.injEq] at hi
    subst hi; exact ok_mov h hx (.inr ho) us d
  case pick c a b =>
    split at hi
    · rename_i hc ha hb
      simp only [Option.some.injEq] at hi; subst hi
      exact ok_pick h hc ha hb ho us d
    · cases hi
  case alloc el =>
    split at hi
    · rename_i z s dd hz hs hdst
      split at hi
      · simp only [Option.some.injEq] at hi
        split at hi
        · subst hi; exact ok_alc h hz ho (hus rfl) (hdd hdst)
        · subst hi; exact ok_alh h hz ho us d
      · cases hi
    · cases hi
  case box el x =>
    split at hi
    · rename_i dd xa s hdst hx hs
      simp only [Option.some.injEq] at hi
      split at hi
      · subst hi; exact ok_box h hx ho (hus rfl) (hdd hdst)
      · subst hi; exact ok_bxh h hx ho us d
    · cases hi
  case build t ps =>
    split at hi
    · rename_i z s fs hz hs hu
      split at hi
      · rename_i pl hpl
        split at hi
        · cases hm : allSome (partS pl) ps.toList with
          | none => simp only [hm, Option.map_none, reduceCtorEq] at hi
          | some ms =>
            simp only [hm, Option.map_some, Option.some.injEq] at hi; subst hi
            refine ok_bld h (place := (pl.toArray[·]?)) hz (fun i x o n xa hx => ?_) hm (fun i zv l cells hinfo hzv hf => ?_) ho us d
            · unfold partS at hx
              split at hx
              · rename_i h1 h2
                simp only [Option.some.injEq, Prod.mk.injEq] at hx
                obtain ⟨rfl, rfl, rfl⟩ := hx
                exact ⟨by simpa using h1, h2⟩
              · cases hx
            · unfold Program.built
              simp only [hinfo, hu, hzv, hpl]
              exact hf
        · cases hi
      · cases hi
    · rename_i z s k el hz hs hu
      split at hi
      · split at hi
        · rename_i n hn
          cases hm : allSome (partA n) ps.toList with
          | none => simp only [hm, Option.map_none, reduceCtorEq] at hi
          | some ms =>
            simp only [hm, Option.map_some, Option.some.injEq] at hi; subst hi
            obtain ⟨ie, hie, hien⟩ := size_info hn
            refine ok_bld h (place := fun i => some (i * n, n)) hz (fun i x o m xa hx => ?_) hm (fun i zv l cells hinfo hzv hf => ?_) ho us d
            · unfold partA at hx
              cases hc : cA x with
              | none => simp [hc] at hx
              | some y => simp only [hc, Option.map_some, Option.some.injEq, Prod.mk.injEq] at hx; obtain ⟨rfl, rfl, rfl⟩ := hx; exact ⟨rfl, rfl⟩
            · unfold Program.built
              simp only [hinfo, hu, hzv, hie, hien]
              exact hf
        · cases hi
      · cases hi
    · cases hi
  case buildSlice t n ps =>
    split at hi
    · rename_i el hel
      have hu : e.P.underlying t = some (.slice el) := by
        unfold Ev.elemOf at hel
        split at hel <;> simp_all
      split at hi
      · rename_i s z ms ts dd hs hz hm hts hdst
        split at hi
        · rename_i hcond
          obtain ⟨c1, c2, c3, c4⟩ := hcond
          simp only [Option.some.injEq] at hi
          split at hi
          · subst hi; exact ok_bsl h hu hs hz hm c1 c2 c3 ho us d
          · subst hi; exact ok_bsv h hu hs hz hm c1 c2 c3 ho us d
        · cases hi
      · cases hi
    · cases hi
  case load t a =>
    split at hi
    · rename_i hs hg ha
      simp only [Option.some.injEq] at hi; subst hi
      exact ok_ld h hs hg ha ho us d
    · cases hi
  case store t a x =>
    split at hi
    · rename_i hs ha hx
      simp only [Option.some.injEq] at hi; subst hi
      exact ok_sto h hs ha hx ho us d
    · cases hi
  case nilCheck x =>
    cases hx : cA x <;> simp only [hx, Option.map_none, Option.map_some, reduceCtorEq, Option.some.injEq] at hi
    subst hi; exact ok_nck h hx ho us hd
  case binOp op t x y yt =>
    split at hi
    · rename_i hx hy
      split at hi
      · rename_i hop
        cases hq : qkOf e.P t <;> simp only [hq, Option.map_none, Option.map_some, reduceCtorEq, Option.some.injEq] at hi
        subst hi
        exact ok_bin h (fun _ => hq) hx hy ho us d
      · rename_i hop
        simp only [Option.some.injEq] at hi; subst hi
        exact ok_bin h (fun q => absurd q hop) hx hy ho us d
    · cases hi
  case unOp op t x =>
    cases hx : cA x <;> simp only [hx, Option.map_none, Option.map_some, reduceCtorEq, Option.some.injEq] at hi
    subst hi; exact ok_un h hx ho us d
  case convert s t x =>
    split at hi
    · split at hi
      · rename_i c xa hc hx
        simp only [Option.some.injEq] at hi; subst hi
        exact ok_cnv h hc hx ho us d
      · rename_i xa _ hx
        split at hi
        · rename_i hst
          subst hst
          split at hi
          · rename_i el hu
            split at hi
            · rename_i hby
              simp only [Option.some.injEq] at hi; subst hi
              exact ok_mrk h hu hby hx ho us d
            · cases hi
          · cases hi
        · cases hi
      · cases hi
    · cases hi
  case makeInterface t x =>
    split at hi
    · cases hi
    · rename_i dd xa hne hu hx
      simp only [Option.some.injEq] at hi; subst hi
      exact ok_mki h hu (fun m q => hne m q) hx ho us d
    · cases hi
  case makeFunc f first cap =>
    cases f <;> simp only [reduceCtorEq] at hi
    split at hi
    · rename_i ha hb
      simp only [Option.some.injEq] at hi; subst hi
      exact ok_mkf h ha hb ho us d
    · cases hi
  case makeSlice t l c =>
    split at hi
    · rename_i el hel
      have hu : e.P.underlying t = some (.slice el) := by
        unfold Ev.elemOf at hel
        split at hel <;> simp_all
      split at hi
      · rename_i s z b xa ya hs hz hb hx hy
        split at hi
        · rename_i hcond
          simp only [Option.some.injEq] at hi; subst hi
          exact ok_mks h hu hs hz hb hcond.1 hcond.2 hx hy ho us d
        · cases hi
      · cases hi
    · cases hi
  case slice t x lo hh mx =>
    cases mx <;> simp only [reduceCtorEq] at hi
    split at hi
    · rename_i xa la ha hx hl hh'
      have hl' : cOpt lo = some la := by cases lo <;> exact hl
      have hh'' : cOpt hh = some ha := by cases hh <;> exact hh'
      split at hi
      · rename_i hu
        simp only [Option.some.injEq] at hi; subst hi
        exact ok_slc h (s := true) (by simpa using hu) hx hl' hh'' ho us d
      · rename_i el hu
        cases hs : Ev.size e.P el <;> simp only [hs, Option.map_none, Option.map_some, reduceCtorEq, Option.some.injEq] at hi
        subst hi
        exact ok_slc h (s := false) (by simpa using ⟨el, hu, hs⟩) hx hl' hh'' ho us d
      · cases hi
    · cases hi
  case fieldAddr s a k =>
    split at hi
    · rename_i f xa hf hx
      split at hi
      · rename_i n hn
        split at hi
        · cases hi
        · rename_i h0
          simp only [Option.some.injEq] at hi; subst hi
          exact ok_fad h hf hn h0 hx ho us hd
      · cases hi
    · cases hi
  case field s x k =>
    split at hi
    · rename_i f xa hf hx
      split at hi
      · rename_i n g hn hg
        simp only [Option.some.injEq] at hi; subst hi
        exact ok_fld h hf hn hg hx ho us d
      · cases hi
    · cases hi
  case indexAddr t x k =>
    split at hi
    · rename_i el xa ia hu hx hk
      cases hs : Ev.size e.P el <;> simp only [hs, Option.map_none, Option.map_some, reduceCtorEq, Option.some.injEq] at hi
      subst hi
      exact ok_ias h hu hs hx hk ho us d
    · rename_i n el xa ia hu hx hk
      cases hs : Ev.size e.P el <;> simp only [hs, Option.map_none, Option.map_some, reduceCtorEq, Option.some.injEq] at hi
      subst hi
      exact ok_iaa h hu hs hx hk ho us hd
    · cases hi
  case index t x k =>
    split at hi
    · rename_i xa ia hu hx hk
      simp only [Option.some.injEq] at hi; subst hi
      exact ok_ixs h hu hx hk ho us d
    · rename_i n el xa ia hu hx hk
      split at hi
      · rename_i s g hs hg
        simp only [Option.some.injEq] at hi; subst hi
        exact ok_ixa h hu hs hg hx hk ho us d
      · cases hi
    · cases hi
  case makeMap t hint =>
    cases hint <;> simp only [reduceCtorEq] at hi
    split at hi
    · simp only [Option.some.injEq] at hi; subst hi; exact ok_mmk h ho us d
    · cases hi
  case lookup t x k ok =>
    split at hi
    · rename_i key el xa ia hu hx hk
      split at hi
      · rename_i hm
        split at hi
        · rename_i z hz
          simp only [Option.some.injEq] at hi; subst hi
          exact ok_mlk h hm hu hz hx hk ho us d
        · cases hi
      · cases hi
    · cases hi
  case mapUpdate t x k y =>
    split at hi
    · rename_i xa ia va hx hk hv
      split at hi
      · rename_i hm
        simp only [Option.some.injEq] at hi; subst hi
        exact ok_mup h hm hx hk hv ho us d
      · cases hi
    · cases hi
  case extract x k =>
    cases hx : cA x <;> simp only [hx, Option.map_none, Option.map_some, reduceCtorEq, Option.some.injEq] at hi
    subst hi; exact ok_ext h hx ho us d
  case panic x =>
    cases hx : cA x <;> simp only [hx, Option.map_none, Option.map_some, reduceCtorEq, Option.some.injEq] at hi
    subst hi; cases hnc
  case call c =>
    split at hi
    · rename_i f xs hcal ha
      split at hi
      · rename_i hix
        split at hi
        · simp only [Option.some.injEq] at hi; subst hi
          exact ok_ixb h hix hcal ha ho us d
        · cases hi
      · simp only [Option.some.injEq] at hi; subst hi; cases hnc
    · rename_i f xs _ _ _
      cases hf : cA f <;> simp only [hf, Option.map_none, Option.map_some, reduceCtorEq, Option.some.injEq] at hi
      subst hi; cases hnc
    · rename_i b xs hb ha
      split at hi
      · rename_i xa
        split at hi
        · rename_i n el hu
          simp only [Option.some.injEq] at hi; subst hi
          obtain ⟨x, hargs, hx⟩ := args1 ha
          cases ht : c.argTypes[0]? with
          | none => simp [ht] at hu
          | some t =>
            have hu' : e.P.underlying t = some (.array n el) := by simpa [ht] using hu
            exact Res.val h (cv := goInt n) (run_builtin ho hb (by simp [Go.builtin, hargs, Builtin.len_, ht, run_underlying hu'])) (.c _ _ (.it _ _)) rfl
        · rename_i ar hu
          split at hi
          · rename_i n el hu2
            simp only [Option.some.injEq] at hi; subst hi
            obtain ⟨x, hargs, hx⟩ := args1 ha
            cases ht : c.argTypes[0]? with
            | none => simp [ht] at hu
            | some t =>
              have hu' : e.P.underlying t = some (.pointer ar) := by simpa [ht] using hu
              exact Res.val h (cv := goInt n) (run_builtin ho hb (by simp [Go.builtin, hargs, Builtin.len_, ht, run_underlying hu', run_underlying hu2])) (.c _ _ (.it _ _)) rfl
          · cases hi
        · rename_i hu
          simp only [Option.some.injEq] at hi; subst hi
          cases ht : c.argTypes[0]? with
          | none => simp [ht] at hu
          | some t => exact ok_len h ha ho hb ht (by simpa [ht] using hu) us d
        · rename_i el hu
          simp only [Option.some.injEq] at hi; subst hi
          cases ht : c.argTypes[0]? with
          | none => simp [ht] at hu
          | some t => exact ok_len h ha ho hb ht (by simpa [ht] using ⟨el, by simpa [ht] using hu⟩) us d
        · cases hi
      · rename_i xa ya
        obtain ⟨x, y, hargs, hx, hy⟩ := args2 ha
        split at hi
        · rename_i t tx htys
          have htys' : c.argTypes = #[t, tx] := by apply Array.ext'; simpa using htys
          split at hi
          · rename_i el u hu hux
            split at hi
            · rename_i s b z hs hbb hz
              split at hi
              · rename_i hcond
                obtain ⟨c1, c2, c3⟩ := hcond
                split at hi
                · simp only [Option.some.injEq] at hi; subst hi
                  exact ok_app h hargs htys' ho hb hu (.inl ⟨_, hux⟩) hs hbb hz c1 c2 c3 hx hy us d
                · simp only [Option.some.injEq] at hi; subst hi
                  exact ok_app h hargs htys' ho hb hu (.inr hux) hs hbb hz c1 c2 c3 hx hy us d
                · split at hi
                  · rename_i hq
                    obtain ⟨_, rfl, rfl, q4⟩ := hq
                    simp only [Option.some.injEq] at hi; subst hi
                    exact ok_apz h hargs htys' ho hb hu hux hs hbb q4 hx hy us d
                  · cases hi
                · cases hi
              · cases hi
            · cases hi
          · cases hi
        · cases hi
      · rename_i xa ya
        obtain ⟨x, y, hargs, hx, hy⟩ := args2 ha
        split at hi
        · rename_i t tx htys
          have htys' : c.argTypes = #[t, tx] := by apply Array.ext'; simpa using htys
          split at hi
          · rename_i el u hu hux
            split at hi
            · rename_i s hs
              split at hi
              · rename_i hsz
                split at hi
                · simp only [Option.some.injEq] at hi; subst hi
                  exact ok_cpy h hargs htys' ho hb hu hs hsz hx hy us d
                · simp only [Option.some.injEq] at hi; subst hi
                  exact ok_cpy h hargs htys' ho hb hu hs hsz hx hy us d
                · cases hi
              · cases hi
            · cases hi
          · cases hi
        · cases hi
      · simp only [Option.some.injEq] at hi; subst hi
        exact ok_mnx h (mx := false) ha ho hb us d
      · simp only [Option.some.injEq] at hi; subst hi
        exact ok_mnx h (mx := true) ha ho hb us d
      · cases hi
    · cases hi
end
end Ev
