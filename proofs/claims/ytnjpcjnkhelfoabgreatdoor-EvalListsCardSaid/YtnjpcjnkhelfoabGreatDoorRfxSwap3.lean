/- Drawn regions, third part: the swap. -/
import Derived.Test.YtnjpcjnkhelfoabGreatDoorRfxSwap2
set_option linter.unusedSectionVars false
set_option linter.unusedVariables false
set_option linter.unusedSimpArgs false
set_option linter.unnecessarySimpa false
namespace Rfx
open Go
variable [Val]

section
variable {E : Env} {call : Call} {d : Dw} {all : List Oper} {base n : Nat}

/-- the same, fewer watched -/
structure Sub (s s' : DS) : Prop where
  ws : ∀ x ∈ s.ws, x ∈ s'.ws
  pend : s.pend = s'.pend
  done : s.done = s'.done
  fr : s.fr = s'.fr
  h : s.h = s'.h

theorem stw_sub {i : Nat} {sto : Option Nat} {ws ws' : List Wt} (hs : ∀ x ∈ ws, x ∈ ws') : ∀ x ∈ stw i sto ws, x ∈ stw i sto ws' := by
  cases sto with
  | none => exact hs
  | some o =>
    intro x hx
    simp only [stw, List.mem_cons] at hx ⊢
    exact hx.imp id (hs x)

theorem cEff_val {i : Nat} {sto : Option Nat} {ws : List Wt} {pend : Tr AB} {done : Nat} {v : AV} {h : AH} {r : DC} (e : cEff E d base n i sto ws pend done v h = some r) :
    r = .val v (stw i sto ws) none (done ||| d.before i) h ∧ watchOk E d base n i sto (done ||| d.before i) pend h ws = true ∧ Nat.ble h.next (far base) = true := by
  unfold cEff at e
  obtain ⟨e1, e2⟩ := cond_some e
  simp only [Bool.and_eq_true] at e1
  exact ⟨(Option.some.inj e2).symm, e1.2, e1.1⟩

theorem cEff_of {i : Nat} {sto : Option Nat} {ws : List Wt} {pend : Tr AB} {done : Nat} {v : AV} {h : AH} (e1 : watchOk E d base n i sto (done ||| d.before i) pend h ws = true) (e2 : Nat.ble h.next (far base) = true) :
    cEff E d base n i sto ws pend done v h = some (.val v (stw i sto ws) none (done ||| d.before i) h) := by
  unfold cEff; rw [e1, e2]; rfl

/-- what an effect gives -/
theorem cAft_cases {i : Nat} {sto : Option Nat} {ws : List Wt} {pend : Tr AB} {done : Nat} {x : ON} {r : DC} (e : cAft E call d base n i sto ws pend done x = some r) :
    (∃ v h, r = .val v (stw i sto ws) none (done ||| d.before i) h ∧ watchOk E d base n i sto (done ||| d.before i) pend h ws = true ∧
      ∀ ws', watchOk E d base n i sto (done ||| d.before i) pend h ws' = true → cAft E call d base n i sto ws' pend done x = some (.val v (stw i sto ws') none (done ||| d.before i) h)) ∨
    (∃ v h, r = .stop v h ∧ d.pan.testBit i = true ∧ ∀ ws', cAft E call d base n i sto ws' pend done x = some (.stop v h)) := by
  have hstop : ∀ v h, cStop d i v h = some r → r = .stop v h ∧ d.pan.testBit i = true := fun v h e => by
    unfold cStop at e
    obtain ⟨e1, e2⟩ := cond_some e
    exact ⟨(Option.some.inj e2).symm, e1⟩
  cases x with
  | none => cases e
  | some x =>
    obtain ⟨an, h⟩ := x
    cases an with
    | val v =>
      obtain ⟨rfl, h1, h2⟩ := cEff_val e
      exact .inl ⟨v, h, rfl, h1, fun ws' hw => cEff_of hw h2⟩
    | panic v =>
      obtain ⟨rfl, h1⟩ := hstop v h e
      exact .inr ⟨v, h, rfl, h1, fun _ => e⟩
    | enter f a =>
      simp only [cAft] at e
      cases hc : call f a h with
      | none => rw [hc] at e; cases e
      | some y =>
        obtain ⟨res, h2⟩ := y
        rw [hc] at e
        cases res with
        | ret v =>
          obtain ⟨rfl, k1, k2⟩ := cEff_val e
          exact .inl ⟨v, h2, rfl, k1, fun ws' hw => by simp only [cAft, hc]; exact cEff_of hw k2⟩
        | panic v =>
          obtain ⟨rfl, h1⟩ := hstop v h2 e
          exact .inr ⟨v, h2, rfl, h1, fun _ => by simp only [cAft, hc]; exact e⟩
    | _ => cases e

theorem cEnd_go {i : Nat} {o : Oper} {s s1 : DS} {x : Option DC} (e : cEnd all i o s x = some (.go s1)) :
    ∃ v ws B done h fr, x = some (.val v ws B done h) ∧ putF s.fr o.dst v = some fr ∧ s1 = ⟨ws, setO s.pend i B, done, fr, h⟩ := by
  cases x with
  | none => cases e
  | some x =>
    cases x with
    | stop v h => cases e
    | val v ws B done h =>
      simp only [cEnd] at e
      cases hp : putF s.fr o.dst v with
      | none => rw [hp] at e; cases e
      | some fr =>
        rw [hp] at e
        simp only [Option.some.injEq, DR.go.injEq] at e
        exact ⟨v, ws, B, done, h, fr, rfl, hp, e.symm⟩

theorem cEnd_stop {i : Nat} {o : Oper} {s : DS} {x : Option DC} {e : AE} {fr : Fr} {h : AH} (hh : cEnd all i o s x = some (.stop e fr h)) :
    ∃ v, x = some (.stop v h) ∧ e = .panic v ∧ fr = { s.fr with tm := clearD all s.fr.tm } := by
  cases x with
  | none => cases hh
  | some x =>
    cases x with
    | val v ws B done h =>
      simp only [cEnd] at hh
      cases hp : putF s.fr o.dst v with
      | none => rw [hp] at hh; cases hh
      | some fr => rw [hp] at hh; cases hh
    | stop v h =>
      simp only [cEnd, Option.some.injEq, DR.stop.injEq] at hh
      obtain ⟨rfl, rfl, rfl⟩ := hh
      exact ⟨v, rfl, rfl, rfl⟩

/-- what an operation is by the table's kinds -/
def PK (o : Oper) (tm : Tr AV) : DO → Prop
  | .fr _ (some _) => kindOf o.op = .alloc
  | .fr _ none => True
  | .rd r => kindOf o.op = .read ∧ r = rdOf tm o.op
  | .ef (some b) => kindOf o.op = .store ∧ storeAddr tm o.op = some b
  | .ef none => kindOf o.op = .eff

theorem plan_kind {i : Nat} {o : Oper} {tm : Tr AV} {p : DO} (e : plan E all base i o tm = some p) : PK o tm p := by
  unfold plan at e
  split at e
  · cases e
  · cases e; trivial
  · split at e
    · split at e
      · split at e
        · obtain ⟨_, e⟩ := cond_some e; cases e; trivial
        · cases e
      · cases e
    · rename_i hk
      split at e
      · rename_i v h he
        obtain ⟨_, e⟩ := cond_some e
        simp only [Option.some.injEq] at e
        subst e
        cases hB : h.bs.get (base + i) with
        | none => trivial
        | some B => exact hk
      · cases e
    · rename_i hk; cases e; exact ⟨hk, rfl⟩
    · rename_i hk
      split at e
      · rename_i b hb; cases e; exact ⟨hk, hb⟩
      · cases e
    · rename_i hk; cases e; exact hk
    · cases e

theorem doStore_spec {h h' : AH} {t : Nat} {p x : AV} {an : AN} (e : doStore E h t p x = some (an, h')) :
    ∃ o off B, p = .ptr o off ∧ an = .val (.tup []) ∧ h' = ⟨h.next, h.bs.set o B⟩ ∧ ∀ h2 : AH, h2.bs.get o = h.bs.get o → doStore E h2 t p x = some (an, ⟨h2.next, h2.bs.set o B⟩) := by
  unfold doStore at e
  cases hi : E.ty t with
  | none => rw [hi] at e; cases e
  | some i =>
    cases hc : cellsOf x with
    | none => rw [hi, hc] at e; cases e
    | some cs =>
      rw [hi, hc] at e
      dsimp only at e
      obtain ⟨e1, e2⟩ := cond_some e
      cases p with
      | ptr o off =>
        cases hr : h.cells o with
        | none => simp only [writePtr, hr] at e2; cases e2
        | some row =>
          simp only [writePtr, hr] at e2
          cases hb : Nat.ble (off + cs.length) row.length with
          | false => rw [hb] at e2; cases e2
          | true =>
            rw [hb] at e2
            simp only [cond_true, Option.some.injEq, Prod.mk.injEq] at e2
            obtain ⟨rfl, rfl⟩ := e2
            refine ⟨o, off, _, rfl, rfl, rfl, fun h2 hg => ?_⟩
            have hr2 : h2.cells o = some row := by unfold AH.cells at hr ⊢; rw [hg]; exact hr
            simp only [doStore, hi, hc, e1, cond_true, writePtr, hr2, hb]
      | _ => cases e2

theorem store_op {o : Op} {tm : Tr AV} {b : Nat} (hk : storeAddr tm o = some b) : ∃ t a x, o = .store t a x ∧ ∃ off, opnd tm a = .ptr b off := by
  cases o with
  | store t a x =>
    refine ⟨t, a, x, rfl, ?_⟩
    simp only [storeAddr] at hk
    cases ha : opnd tm a with
    | ptr o off => rw [ha] at hk; simp only [blockOf, Option.some.injEq] at hk; subst hk; exact ⟨off, rfl⟩
    | _ => rw [ha] at hk; cases hk
  | _ => cases hk

theorem putF_n {fr fr' : Fr} {t : Option Nat} {v : AV} (e : putF fr t v = some fr') : fr'.n = fr.n ∧ fr'.dfs = fr.dfs := by
  cases t with
  | none => cases e; exact ⟨rfl, rfl⟩
  | some t => simp only [putF] at e; obtain ⟨_, e⟩ := cond_some e; cases e; exact ⟨rfl, rfl⟩

theorem putF_get {fr fr' : Fr} {t : Option Nat} {v : AV} (e : putF fr t v = some fr') {u : Nat} (hu : t ≠ some u) : fr'.tm.get u = fr.tm.get u := by
  cases t with
  | none => cases e; rfl
  | some t => simp only [putF] at e; obtain ⟨_, e⟩ := cond_some e; cases e; exact Tr.get_set_ne _ _ fun h => hu (by rw [h])

theorem putF_comm {fr f1 f2 : Fr} {x y : Option Nat} {v u : AV} (hne : ∀ t, x = some t → y ≠ some t) (e1 : putF fr x v = some f1) (e2 : putF f1 y u = some f2) :
    ∃ f1', putF fr y u = some f1' ∧ putF f1' x v = some f2 := by
  cases x with
  | none => cases e1; exact ⟨f2, e2, rfl⟩
  | some x =>
    simp only [putF] at e1
    obtain ⟨b1, e1⟩ := cond_some e1
    cases e1
    cases y with
    | none => cases e2; exact ⟨fr, rfl, by simp only [putF, b1]; rfl⟩
    | some y =>
      simp only [putF] at e2
      obtain ⟨b2, e2⟩ := cond_some e2
      cases e2
      refine ⟨{ fr with tm := fr.tm.set y u }, by simp only [putF, b2, cond_true], ?_⟩
      have hxy : x ≠ y := fun h => hne x rfl (by rw [h])
      simp only [putF, b1, cond_true]
      rw [Tr.set_comm _ _ _ hxy]

theorem apartO_spec {o p : Oper} (h : apartO all o p = true) : (∀ t, o.dst = some t → t ∉ looksAt all p) ∧ (∀ t, o.dst = some t → p.dst ≠ some t) ∧ (∀ t, p.dst = some t → t ∉ looksAt all o) := by
  unfold apartO at h
  rw [Bool.and_eq_true] at h
  obtain ⟨h1, h2⟩ := h
  refine ⟨fun t ht => ?_, fun t ht => ?_, fun t ht => ?_⟩
  · rw [ht] at h1; simp at h1; exact h1.1
  · rw [ht] at h1; simp at h1; exact h1.2
  · rw [ht] at h2; simpa using h2

theorem pairOk_spec {x y : Nat} (h : pairOk d all x y = true) : ∃ o p, all[x]? = some o ∧ all[y]? = some p ∧ x ≠ y ∧ d.bit x y = false ∧
    (d.bit y x = true ∨ (d.pan.testBit x = false ∧ apartO all o p = true ∧ kindsOk (d.lax.testBit x) (d.lax.testBit y) (kindOf o.op) (kindOf p.op) = true)) := by
  unfold pairOk at h
  split at h
  · rename_i o p ho hp
    simp only [Bool.and_eq_true, Bool.or_eq_true, Bool.not_eq_true'] at h
    obtain ⟨⟨h0, h1⟩, h2⟩ := h
    refine ⟨o, p, ho, hp, ?_, h1, h2.imp id fun hh => ⟨hh.1.1, hh.1.2, hh.2⟩⟩
    rintro rfl
    simp at h0
  · cases h
end
end Rfx
