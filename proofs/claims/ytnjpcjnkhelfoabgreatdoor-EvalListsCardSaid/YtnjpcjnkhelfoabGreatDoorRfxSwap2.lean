/- Drawn regions, second part: two operations that the table lets stand in either order come to the same. -/
import Derived.Test.YtnjpcjnkhelfoabGreatDoorRfxSwap
set_option linter.unusedSectionVars false
set_option linter.unusedVariables false
set_option linter.unusedSimpArgs false
set_option linter.unnecessarySimpa false
namespace Rfx
open Go
variable [Val]

mutual
theorem AV.beq_t : ∀ {a b : AV}, AV.beq a b = true → a = b := fun {a b} h => by
  cases a <;> cases b <;> simp only [AV.beq, Bool.false_eq_true] at h <;>
    first
      | rfl
      | (try simp only [Bool.and_eq_true, decide_eq_true_eq, beq_iff_eq] at h
         first
           | (subst h; rfl)
           | (obtain ⟨h1, h2⟩ := h; rw [h1, Rfx.beq_t h2]; done)
           | (obtain ⟨rfl, rfl⟩ := h; rfl)
           | (obtain ⟨h1, h2⟩ := h; rw [Rfx.beq_t h1, Rfx.beq_t h2])
           | (rw [Rfx.beq_t h])
           | (rw [AV.beqs_t h])
           | (obtain ⟨⟨h1, h2⟩, h3⟩ := h; rw [Rfx.beq_t h1, h2, AV.beqs_t h3])
           | (obtain ⟨⟨h1, h2⟩, h3⟩ := h; rw [Rfx.beq_t h1, AV.beqs_t h2, AV.beqs_t h3])
           | (obtain ⟨h1, h2⟩ := h; rw [Rfx.beq_t h1, AV.beq_t h2])
           | (obtain ⟨⟨⟨h1, h2⟩, h3⟩, h4, h5⟩ := h; rw [Rfx.beq_t h1, Rfx.beq_t h2, Rfx.beq_t h3, h4, Rfx.beq_t h5]))
theorem AV.beqs_t : ∀ {a b : List AV}, AV.beqs a b = true → a = b := fun {a b} h => by
  cases a <;> cases b <;> simp only [AV.beqs, Bool.false_eq_true, Bool.and_eq_true] at h
  · rfl
  · rw [AV.beq_t h.1, AV.beqs_t h.2]
end

/-! ### what waits is put into the heap -/
noncomputable section
variable {base n : Nat}

theorem flushN_succ {p done : Nat} {pend bs : Tr AB} {m : Nat} : flushN base p done pend bs (m + 1) =
    bif p.testBit m && !done.testBit m then (match pend.get m with | some B => (flushN base p done pend bs m).set (base + m) B | none => flushN base p done pend bs m) else flushN base p done pend bs m := rfl

theorem flushN_congr {p p' done done' : Nat} {pend pend' : Tr AB} {bs : Tr AB} : ∀ {m : Nat},
    (∀ k, k < m → (bif p.testBit k && !done.testBit k then pend.get k else none) = (bif p'.testBit k && !done'.testBit k then pend'.get k else none)) →
    flushN base p done pend bs m = flushN base p' done' pend' bs m
  | 0, _ => rfl
  | m + 1, h => by
    have ih := flushN_congr (bs := bs) (m := m) fun k hk => h k (by omega)
    have hm := h m (by omega)
    rw [flushN_succ, flushN_succ, ih]
    cases h1 : (p.testBit m && !done.testBit m) <;> cases h2 : (p'.testBit m && !done'.testBit m) <;> rw [h1, h2] at hm <;> simp only [cond_true, cond_false] at hm ⊢
    · rw [← hm]
    · rw [hm]
    · rw [hm]

theorem flushN_none {p done : Nat} {pend bs : Tr AB} : ∀ {m : Nat}, (∀ k, k < m → p.testBit k = true → done.testBit k = false → pend.get k = none) → flushN base p done pend bs m = bs
  | 0, _ => rfl
  | m + 1, h => by
    have ih := flushN_none (bs := bs) (m := m) fun k hk => h k (by omega)
    rw [flushN_succ, ih]
    cases h1 : (p.testBit m && !done.testBit m) with
    | false => rfl
    | true =>
      simp only [Bool.and_eq_true, Bool.not_eq_true'] at h1
      rw [h m (by omega) h1.1 h1.2]; rfl

theorem fl_eq {p done : Nat} {pend : Tr AB} {h : AH} : fl base n p done pend h = ⟨h.next, flushN base p done pend h.bs n⟩ := by
  cases pend with
  | nil => rw [flushN_none fun _ _ _ _ => rfl]; rfl
  | node v l r => rfl

theorem fl_congr {p p' done done' : Nat} {pend pend' : Tr AB} {h : AH}
    (hh : ∀ k, (bif p.testBit k && !done.testBit k then pend.get k else none) = (bif p'.testBit k && !done'.testBit k then pend'.get k else none)) : fl base n p done pend h = fl base n p' done' pend' h := by
  rw [fl_eq, fl_eq, flushN_congr fun k _ => hh k]

theorem fl_pend {p done : Nat} {pend pend' : Tr AB} {h : AH} (hh : ∀ k, p.testBit k = true → pend.get k = pend'.get k) : fl base n p done pend h = fl base n p done pend' h :=
  fl_congr fun k => by
    cases e : p.testBit k with
    | false => rfl
    | true => rw [hh k e]

theorem get_setO {pend : Tr AB} {i k : Nat} {B : Option AB} (h : i ≠ k) : (setO pend i B).get k = pend.get k := by
  cases B with
  | none => rfl
  | some B => exact Tr.get_set_ne _ _ h
end

/-! ### one operation, without the place of its result -/
inductive DC where
  | val (v : AV) (ws : List Wt) (B : Option AB) (done : Nat) (h : AH)
  | stop (v : AV) (h : AH)

noncomputable section
variable (E : Env) (call : Call) (d : Dw) (all : List Oper) (base n : Nat)

def cEff (i : Nat) (sto : Option Nat) (ws : List Wt) (pend : Tr AB) (done : Nat) (v : AV) (h : AH) : Option DC :=
  bif Nat.ble h.next (far base) && watchOk E d base n i sto (done ||| d.before i) pend h ws then some (.val v (stw i sto ws) none (done ||| d.before i) h) else none
def cStop (i : Nat) (v : AV) (h : AH) : Option DC := bif d.pan.testBit i then some (.stop v h) else none

def cAft (i : Nat) (sto : Option Nat) (ws : List Wt) (pend : Tr AB) (done : Nat) : Option (AN × AH) → Option DC
  | some (.val v, h) => cEff E d base n i sto ws pend done v h
  | some (.enter f a, h) => match call f a h with
    | some (.ret v, h) => cEff E d base n i sto ws pend done v h
    | some (.panic v, h) => cStop d i v h
    | none => none
  | some (.panic v, h) => cStop d i v h
  | _ => none

def cDo (i : Nat) (o : Oper) (tm : Tr AV) (ws : List Wt) (pend : Tr AB) (done : Nat) (h : AH) : Option DO → Option DC
  | none => none
  | some (.fr v B) => some (.val v ws B done h)
  | some (.rd r) => match rdRun E (fl base n (d.before i) done pend h) r with
    | some (.val v, _) => some (.val v (.rd i r v :: ws) none done h)
    | _ => none
  | some (.ef sto) => cAft E call d base n i sto ws pend done (opA E (base + i) tm o.op (fl base n (d.before i) done pend h))

def putF (fr : Fr) (dst : Option Nat) (v : AV) : Option Fr :=
  match dst with
  | some d => bif Nat.blt d fr.n then some { fr with tm := fr.tm.set d v } else none
  | none => some fr

def cEnd (i : Nat) (o : Oper) (s : DS) : Option DC → Option DR
  | none => none
  | some (.val v ws B done h) => match putF s.fr o.dst v with
    | some fr => some (.go ⟨ws, setO s.pend i B, done, fr, h⟩)
    | none => none
  | some (.stop v h) => some (.stop (.panic v) { s.fr with tm := clearD all s.fr.tm } h)

theorem putD_eq {fr : Fr} {dst : Option Nat} {v : AV} {k : Fr → DS} : putD fr dst v k = match putF fr dst v with | some fr => some (.go (k fr)) | none => none := by
  cases dst with
  | none => rfl
  | some t => simp only [putD, putF]; cases Nat.blt t fr.n <;> rfl

theorem dEff_eq {i : Nat} {o : Oper} {sto : Option Nat} {s : DS} {v : AV} {h : AH} : dEff E d base n i o.dst sto s v h = cEnd all i o s (cEff E d base n i sto s.ws s.pend s.done v h) := by
  simp only [dEff, cEff]
  cases (Nat.ble h.next (far base) && watchOk E d base n i sto (s.done ||| d.before i) s.pend h s.ws) with
  | false => rfl
  | true => simp only [cond_true, cEnd, putD_eq, setO]

theorem dStop_eq {i : Nat} {o : Oper} {s : DS} {v : AV} {h : AH} : dStop d all i s v h = cEnd all i o s (cStop d i v h) := by
  simp only [dStop, cStop]
  cases d.pan.testBit i <;> rfl

theorem dDo_eq {i : Nat} {o : Oper} {s : DS} (p : Option DO) : dDo E call d all base n i o s p = cEnd all i o s (cDo E call d base n i o s.fr.tm s.ws s.pend s.done s.h p) := by
  cases p with
  | none => rfl
  | some p =>
    cases p with
    | fr v B => simp only [dDo, cDo, cEnd, putD_eq]
    | rd r =>
      simp only [dDo, cDo]
      generalize rdRun E (fl base n (d.before i) s.done s.pend s.h) r = x
      cases x with
      | none => rfl
      | some x =>
        obtain ⟨an, h⟩ := x
        cases an <;> first | rfl | simp only [cEnd, putD_eq, setO]
    | ef sto =>
      simp only [dDo, cDo]
      generalize opA E (base + i) s.fr.tm o.op (fl base n (d.before i) s.done s.pend s.h) = x
      cases x with
      | none => rfl
      | some x =>
        obtain ⟨an, h⟩ := x
        cases an with
        | val v => exact dEff_eq E d all base n
        | panic v => exact dStop_eq d all
        | enter f a =>
          simp only [dAft, cAft]
          cases call f a h with
          | none => rfl
          | some y =>
            obtain ⟨res, h2⟩ := y
            cases res with
            | ret v => exact dEff_eq E d all base n
            | panic v => exact dStop_eq d all
        | _ => rfl

def core (i : Nat) (o : Oper) (tm : Tr AV) (ws : List Wt) (pend : Tr AB) (done : Nat) (h : AH) : Option DC := cDo E call d base n i o tm ws pend done h (plan E all base i o tm)

theorem dOne_eq {i : Nat} {o : Oper} {s : DS} (ho : all[i]? = some o) : dOne E call d all base n i s = cEnd all i o s (core E call d all base n i o s.fr.tm s.ws s.pend s.done s.h) := by
  simp only [dOne, ho, core]
  exact dDo_eq E call d all base n _
end

/-! ### what it looks at -/
section
variable {E : Env} {call : Call} {d : Dw} {all : List Oper} {base n : Nat}

theorem opnd_looks {o : Oper} {tm tm' : Tr AV} (h : ∀ t ∈ looksAt all o, tm.get t = tm'.get t) : ∀ x ∈ o.op.operands.toList, opnd tm x = opnd tm' x := fun x hx => by
  cases x with
  | tmp t =>
    have := h t (by
      unfold looksAt
      refine List.mem_append_left _ (List.mem_filterMap.2 ⟨.tmp t, hx, rfl⟩))
    simp only [opnd, this]
  | _ => rfl

theorem wanted_looks {o : Oper} {tm tm' : Tr AV} (h : ∀ t ∈ looksAt all o, tm.get t = tm'.get t) : wantedA o all tm = wantedA o all tm' := by
  unfold wantedA
  cases hg : o.guard with
  | none => rfl
  | some jw =>
    obtain ⟨j, want⟩ := jw
    have key : ∀ p, all[j]? = some p → ∀ t, p.dst = some t → tm.get t = tm'.get t := fun p hp t ht => h t (by
      unfold looksAt
      refine List.mem_append_right _ ?_
      simp only [hg, hp, ht, Option.toList_some, List.mem_singleton])
    have h1 : guardKnown all tm j = guardKnown all tm' j := by
      unfold guardKnown
      cases hp : all[j]? with
      | none => rfl
      | some p =>
        dsimp only
        cases hd : p.dst with
        | none => rfl
        | some t => dsimp only; rw [key p hp t hd]
    have h2 : guardA all tm j want = guardA all tm' j want := by
      unfold guardA
      cases hp : all[j]? with
      | none => rfl
      | some p =>
        dsimp only
        cases hd : p.dst with
        | none => rfl
        | some t => dsimp only; rw [key p hp t hd]
    dsimp only
    rw [h1, h2]

theorem rdOf_congr {op : Op} {tm tm' : Tr AV} (hx : ∀ x ∈ op.operands.toList, opnd tm x = opnd tm' x) : rdOf tm op = rdOf tm' op := by
  cases op with
  | load t x => simp only [rdOf]; rw [hx x (by simp [Op.operands])]
  | lookup t x y k => simp only [rdOf]; rw [hx x (by simp [Op.operands]), hx y (by simp [Op.operands])]
  | _ => rfl

theorem storeAddr_congr {op : Op} {tm tm' : Tr AV} (hx : ∀ x ∈ op.operands.toList, opnd tm x = opnd tm' x) : storeAddr tm op = storeAddr tm' op := by
  cases op with
  | store t x y => simp only [storeAddr]; rw [hx x (by simp [Op.operands])]
  | _ => rfl

theorem plan_looks {i : Nat} {o : Oper} {tm tm' : Tr AV} (h : ∀ t ∈ looksAt all o, tm.get t = tm'.get t) : plan E all base i o tm = plan E all base i o tm' := by
  have hx := opnd_looks h
  unfold plan
  rw [wanted_looks h, opA_congr _ _ _ hx, rdOf_congr hx, storeAddr_congr hx]

theorem wtOk_pend {j : Nat} {sto : Option Nat} {done : Nat} {pend pend' : Tr AB} {h : AH} {x : Wt} (hp : ∀ i r v, x = .rd i r v → ∀ k, d.bit i k = true → pend.get k = pend'.get k) : wtOk E d base n j sto done pend h x = wtOk E d base n j sto done pend' h x := by
  cases x with
  | st i o => rfl
  | rd i r v => simp only [wtOk]; rw [fl_pend (pend' := pend') fun k hk => hp i r v rfl k hk]

theorem watch_pend {j : Nat} {sto : Option Nat} {done : Nat} {pend pend' : Tr AB} {h : AH} {ws : List Wt} (hp : ∀ i r v, .rd i r v ∈ ws → ∀ k, d.bit i k = true → pend.get k = pend'.get k) :
    watchOk E d base n j sto done pend h ws = watchOk E d base n j sto done pend' h ws := by
  unfold watchOk
  rw [Bool.eq_iff_iff, List.all_eq_true, List.all_eq_true]
  exact ⟨fun hh x hx => by rw [← wtOk_pend fun i r v e k hk => hp i r v (e ▸ hx) k hk]; exact hh x hx, fun hh x hx => by rw [wtOk_pend fun i r v e k hk => hp i r v (e ▸ hx) k hk]; exact hh x hx⟩

theorem watch_sub {j : Nat} {sto : Option Nat} {done : Nat} {pend : Tr AB} {h : AH} {ws ws' : List Wt} (hs : ∀ x ∈ ws', x ∈ ws) (hh : watchOk E d base n j sto done pend h ws = true) : watchOk E d base n j sto done pend h ws' = true := by
  unfold watchOk at *
  rw [List.all_eq_true] at *
  exact fun x hx => hh x (hs x hx)

theorem cEff_pend {i : Nat} {sto : Option Nat} {ws : List Wt} {pend pend' : Tr AB} {done : Nat} {v : AV} {h : AH} (hp : ∀ i r v, .rd i r v ∈ ws → ∀ k, d.bit i k = true → pend.get k = pend'.get k) :
    cEff E d base n i sto ws pend done v h = cEff E d base n i sto ws pend' done v h := by
  unfold cEff; rw [watch_pend hp]

theorem core_congr {i : Nat} {o : Oper} {tm tm' : Tr AV} {ws : List Wt} {pend pend' : Tr AB} {done : Nat} {h : AH} (ht : ∀ t ∈ looksAt all o, tm.get t = tm'.get t)
    (hp : ∀ k, d.bit i k = true → pend.get k = pend'.get k) (hw : ∀ i r v, .rd i r v ∈ ws → ∀ k, d.bit i k = true → pend.get k = pend'.get k) :
    core E call d all base n i o tm ws pend done h = core E call d all base n i o tm' ws pend' done h := by
  unfold core
  rw [plan_looks ht]
  have hf : fl base n (d.before i) done pend h = fl base n (d.before i) done pend' h := fl_pend hp
  generalize plan E all base i o tm' = p
  cases p with
  | none => rfl
  | some p =>
    cases p with
    | fr v B => rfl
    | rd r => simp only [cDo, hf]
    | ef sto =>
      simp only [cDo, hf, opA_congr _ _ _ (opnd_looks ht)]
      generalize opA E (base + i) tm' o.op (fl base n (d.before i) done pend' h) = x
      cases x with
      | none => rfl
      | some x =>
        obtain ⟨an, h⟩ := x
        cases an with
        | val v => exact cEff_pend hw
        | enter f a =>
          simp only [cAft]
          cases call f a h with
          | none => rfl
          | some y =>
            obtain ⟨res, h2⟩ := y
            cases res with
            | ret v => exact cEff_pend hw
            | panic v => rfl
        | _ => rfl
end
end Rfx
