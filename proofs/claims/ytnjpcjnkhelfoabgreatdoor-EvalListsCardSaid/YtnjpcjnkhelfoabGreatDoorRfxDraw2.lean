/- Drawn regions: one operation at the front; all of them, in any order. -/
import Derived.Test.YtnjpcjnkhelfoabGreatDoorRfxDraw
set_option linter.unusedSectionVars false
set_option linter.unusedVariables false
set_option linter.unusedSimpArgs false
set_option linter.unnecessarySimpa false
namespace Rfx
open Go
variable [Val]

section
variable {P : Program} {E : Env} {call : Call} {d : Dw} {ops : Array Oper} {base : Nat} {c0 : Cx} {h0 : AH} {w0 : World} {e : AE} {fr' : Fr} {h' : AH}

theorem DInv.next_read {c : Cx} {w : World} {s : DS} {l l' : List Nat} (I : DInv c0 h0 w0 d base ops.size c w s l) (hl : ∀ k ∈ l', k ∈ l) {q : Nat}
    {c' : Cx} {w' : World} (st : Step (c.keep (RL c0 base l')) (fl base ops.size q s.done s.pend s.h) w c' (fl base ops.size q s.done s.pend s.h) w') (ws : List Wt) (fr : Fr) :
    DInv c0 h0 w0 d base ops.size c' w' ⟨ws, s.pend, s.done, fr, s.h⟩ l' ∧ Step (c.keep c0.rsv) (allH base ops.size s) w (c'.keep c0.rsv) (allH base ops.size ⟨ws, s.pend, s.done, fr, s.h⟩) w' := by
  have hn1 : (fl base ops.size q s.done s.pend s.h).next = s.h.next := by rw [fl_eq]
  have sub := fun o B => I.part (o := o) (B := B) q
  have S : Step ((c.keep (RL c0 base l')).keep c0.rsv) (allH base ops.size s) w (c'.keep c0.rsv) (allH base ops.size ⟨ws, s.pend, s.done, fr, s.h⟩) w' := by
    refine Step.frame (R0 := c0.rsv) (R := c0.rsv) I.step.rel sub st (by rw [allH_next, allH_next]; exact Nat.le_refl _) ?_ ?_ ?_ ?_
    · intro o B ho
      cases hh : (fl base ops.size q s.done s.pend s.h).bs.get o with
      | none => exact .inr ⟨ho, rfl⟩
      | some C =>
        have h1 := sub o C hh
        have h2 : (allH base ops.size s).bs.get o = some B := ho
        rw [h1] at h2
        exact .inl h2
    · intro o ho
      rw [allH_next] at ho
      exact (st.rel.fresh o (by rw [hn1]; exact ho)).1.1
    · intro o ho
      rw [allH_next] at ho
      exact I.fresh0 o (by have := I.lo; dsimp only at ho; omega)
    · intro o ho
      exact ⟨ho, (st.rsv o (.inl ho)).2⟩
  refine ⟨⟨I.step.trans S, fun k hk => ?_, I.fresh0, fun k hk => I.lt k (hl k hk), I.lo, I.hi, fun k hk => I.ndone k (hl k hk), fun k hk => I.npend k (hl k hk), I.out⟩, S⟩
  rw [(st.rsv (base + k) (.inr ⟨k, hk, rfl⟩)).2]
  exact I.free k (hl k hk)

theorem DInv.stop {c : Cx} {w : World} {s : DS} {l l' : List Nat} (I : DInv c0 h0 w0 d base ops.size c w s l) {q : Nat}
    {c' : Cx} {h2 : AH} {w' : World} (st : Step (c.keep (RL c0 base l')) (fl base ops.size q s.done s.pend s.h) w c' h2 w') :
    Step (c.keep c0.rsv) (allH base ops.size s) w (c'.keep c0.rsv) h2 w' := by
  have hn1 : (fl base ops.size q s.done s.pend s.h).next = s.h.next := by rw [fl_eq]
  have hn2 : s.h.next ≤ h2.next := by rw [← hn1]; exact st.next
  refine Step.frame (c := c.keep (RL c0 base l')) (R0 := c0.rsv) (R := c0.rsv) I.step.rel (fun o B => I.part (o := o) (B := B) q) st (by rw [allH_next]; exact hn2) (fun o B ho => .inl ho) (fun o ho => (st.rel.fresh o ho).1.1) (fun o ho => I.fresh0 o (by have := I.lo; omega)) fun o ho => ⟨ho, (st.rsv o (.inl ho)).2⟩

theorem DInv.opn {c : Cx} {w : World} {s : DS} {i : Nat} {l l' : List Nat} (I : DInv c0 h0 w0 d base ops.size c w s l) (hil : i ∈ l) (hil' : i ∉ l') : (c.keep (RL c0 base l')).opn (base + i) := by
  refine ⟨I.free i hil, ?_⟩
  rintro (h | ⟨k, hk, he⟩)
  · exact I.fresh0 _ (by omega) h
  · have : k = i := by omega
    subst this
    exact hil' hk

theorem draw_one (T : TabOK P E) (hc : CallOK P call) {c : Cx} {w : World} {s : DS} {i : Nat} {l l' : List Nat} {a : Act} (I : DInv c0 h0 w0 d base ops.size c w s l) (hl : ∀ k ∈ l', k ∈ l) (hil : i ∈ l) (hil' : i ∉ l')
    (hbit : ∀ k ∈ l, d.bit i k = false) (f : FRel (c.keep c0.rsv) (allH base ops.size s) w s.fr a) (hr : dRun E call d ops.toList base ops.size (i :: l') s = some (e, fr', h')) (nn : Nat) (K : Act → World → Prop)
    (hK : ∀ c' w' s1 a', dOne E call d ops.toList base ops.size i s = some (.go s1) → DInv c0 h0 w0 d base ops.size c' w' s1 l' → FRel (c'.keep c0.rsv) (allH base ops.size s1) w' s1.fr a' →
      dRun E call d ops.toList base ops.size l' s1 = some (e, fr', h') → K a' w') :
    wpOpIn (FR none) nn P ops (EPost c0 h0 w0 e fr' h') i K a w := by
  have hin := I.lt i hil
  have hnl : (fl base ops.size (d.before i) s.done s.pend s.h).next = s.h.next := by rw [fl_eq]
  -- how it goes on, how it ends
  have fin : (∃ s1, dOne E call d ops.toList base ops.size i s = some (.go s1) ∧ dRun E call d ops.toList base ops.size l' s1 = some (e, fr', h')) ∨
      (dOne E call d ops.toList base ops.size i s = some (.stop e fr' h')) := by
    rcases dRun_head hr with h | ⟨ex, fr, h, h1, h2⟩
    · exact .inl h
    · cases h2; exact .inr h1
  have hone : ∃ r, dOne E call d ops.toList base ops.size i s = some r := by rcases fin with ⟨s1, h, _⟩ | h <;> exact ⟨_, h⟩
  obtain ⟨r0, hr0⟩ := hone
  obtain ⟨o, ho⟩ := dOne_some hr0
  have ho' : ops[i]? = some o := by simpa using ho
  have hde := dOne_eq E call d ops.toList base ops.size (s := s) ho
  have go : ∀ {c' w' v cv ws B dn g}, core E call d ops.toList base ops.size i o s.fr.tm s.ws s.pend s.done s.h = some (.val v ws B dn g) → crel c' w' v cv →
      (∀ fr, DInv c0 h0 w0 d base ops.size c' w' ⟨ws, setO s.pend i B, dn, fr, g⟩ l' ∧ Step (c.keep c0.rsv) (allH base ops.size s) w (c'.keep c0.rsv) (allH base ops.size ⟨ws, setO s.pend i B, dn, fr, g⟩) w') → K (a.put o.dst cv) w' := by
    intro c' w' v cv ws B dn g hcore hv hI
    rw [hcore] at hde
    rcases fin with ⟨s1, h1, h2⟩ | h1
    · rw [h1] at hde
      obtain ⟨v', ws', B', dn', g', fr1, q1, q2, rfl⟩ := cEnd_go hde.symm
      simp only [Option.some.injEq, DC.val.injEq] at q1
      obtain ⟨rfl, rfl, rfl, rfl, rfl⟩ := q1
      obtain ⟨I', S⟩ := hI fr1
      exact hK c' w' _ _ h1 I' ((f.step I.step.rel S).putF (crel_mono (Mono.keep c' w' c0.rsv) _ _ hv) q2) h2
    · rw [h1] at hde
      obtain ⟨_, q1, _⟩ := cEnd_stop hde.symm
      cases q1
  have halt : ∀ {c' w' v cv g}, core E call d ops.toList base ops.size i o s.fr.tm s.ws s.pend s.done s.h = some (.stop v g) → crel c' w' v cv →
      Step (c.keep c0.rsv) (allH base ops.size s) w (c'.keep c0.rsv) g w' → EPost c0 h0 w0 e fr' h' (.panic [{ v := cv, recovered := false }]) a w' := by
    intro c' w' v cv g hcore hv S
    rw [hcore] at hde
    rcases fin with ⟨s1, h1, h2⟩ | h1
    · rw [h1] at hde
      obtain ⟨_, _, _, _, _, _, q1, _⟩ := cEnd_go hde.symm
      cases q1
    · rw [h1] at hde
      obtain ⟨v', q1, rfl, rfl⟩ := cEnd_stop hde.symm
      simp only [Option.some.injEq, DC.stop.injEq] at q1
      obtain ⟨rfl, rfl⟩ := q1
      have f1 := f.step I.step.rel S
      exact ⟨c'.keep c0.rsv, I.step.trans S, ⟨f1.tm.clear, f1.n, f1.dfs⟩, cv, rfl, crel_mono (Mono.keep c' w' c0.rsv) _ _ hv⟩
  unfold Go.wpOpIn
  rw [ho']
  dsimp only
  have hplan : ∃ p, plan E ops.toList base i o s.fr.tm = some p := by
    cases hp : plan E ops.toList base i o s.fr.tm with
    | some p => exact ⟨p, rfl⟩
    | none => unfold core at hde; rw [hp, hr0] at hde; cases hde
  obtain ⟨p, hp⟩ := hplan
  have hcp := core_of (E := E) (call := call) (d := d) (n := ops.size) (ws := s.ws) (pend := s.pend) (done := s.done) (h := s.h) hp
  cases hw : wantedA o ops.toList s.fr.tm with
  | none => unfold plan at hp; rw [hw] at hp; cases hp
  | some b =>
  rw [wanted_ok f.tm hw]
  cases b with
  | false =>
    simp only [Bool.false_eq_true, if_false]
    refine ⟨fun _ _ => trivial, ?_⟩
    unfold plan at hp
    rw [hw] at hp
    cases hp
    refine go (c' := c) (w' := w) (v := .tup []) hcp (by simp [crel, undef, crels]) fun fr => ⟨⟨I.step, fun k hk => I.free k (hl k hk), I.fresh0, fun k hk => I.lt k (hl k hk), I.lo, I.hi, fun k hk => I.ndone k (hl k hk), fun k hk => I.npend k (hl k hk), I.out⟩, Step.refl I.step.rel⟩
  | true =>
    simp only [if_true]
    refine ⟨fun _ _ => trivial, ?_⟩
    have hsem : o.semAt (FR none).round a.eval = execOp a.eval o := semAt_ok (.inl rfl)
    rw [hsem]
    -- makes of memory, and what needs no memory
    have free : ∀ {v h2 B}, opA E (base + i) s.fr.tm o.op ⟨far base, .nil⟩ = some (.val v, h2) → h2.next = far base → (∀ C, B = some C → h2.bs.get (base + i) = some C) → p = .fr v B →
        o.uponIn (FR none) nn P a K (EPost c0 h0 w0 e fr' h') ((execOp a.eval o).run P w) := by
      intro v h2 B e1 e2 e3 e4
      subst e4
      have R2 : ∀ o, far base ≤ o → ¬ (RL c0 base l' o ∨ (s.h.next ≤ o ∧ o < far base)) := by
        rintro o ho (h | h)
        · exact I.RL_hi hl (Nat.le_trans I.hi ho) h
        · omega
      have r1 : HRel (c.keep fun o => RL c0 base l' o ∨ (s.h.next ≤ o ∧ o < far base)) ⟨far base, (allH base ops.size s).bs⟩ w :=
        (I.step.rel.raise (far base) (by rw [allH_next]; exact I.hi)).keep R2
      have r2 : HRel (c.keep fun o => RL c0 base l' o ∨ (s.h.next ≤ o ∧ o < far base)) ⟨far base, .nil⟩ w := r1.sub (Nat.le_refl _) (fun o B e => by cases e)
      have hopn : (c.keep fun o => RL c0 base l' o ∨ (s.h.next ≤ o ∧ o < far base)).opn (base + i) := by
        refine ⟨I.free i hil, ?_⟩
        rintro (h | h)
        · exact (I.opn hil hil').2 h
        · have := I.lo; omega
      obtain ⟨c', w', st, cv, hrun, hv⟩ := opA_ok T r2 hopn rfl (fun x => (f.keep (R := fun o => RL c0 base l' o ∨ (s.h.next ≤ o ∧ o < far base))).tm.opnd x) o e1
      have key : K (a.put o.dst cv) w' := go hcp hv fun fr => I.next_free hl hil hil' st e2 e3 _ fr
      rcases hrun with hrun | ⟨rfl, hrun⟩ <;> rw [hrun] <;> exact key
    have r1 : HRel (c.keep (RL c0 base l')) (fl base ops.size (d.before i) s.done s.pend s.h) w := (I.rel hl).sub (by rw [allH_next, hnl]; exact Nat.le_refl _) fun o B => I.part (o := o) (B := B) _
    have hopn := I.opn hil hil'
    have hg : (fl base ops.size (d.before i) s.done s.pend s.h).bs.get (base + i) = none := by
      cases hh : (fl base ops.size (d.before i) s.done s.pend s.h).bs.get (base + i) with
      | none => rfl
      | some B =>
        obtain ⟨b, x, q, _⟩ := r1.get hh
        rw [hopn.1] at q; cases q
    have hρ := fun x => (f.keep (R := RL c0 base l')).tm.opnd x
    -- effects
    have eff : ∀ {sto}, p = .ef sto → o.uponIn (FR none) nn P a K (EPost c0 h0 w0 e fr' h') ((execOp a.eval o).run P w) := by
      intro sto hpe
      subst hpe
      simp only [cDo] at hcp
      cases ha : opA E (base + i) s.fr.tm o.op (fl base ops.size (d.before i) s.done s.pend s.h) with
      | none => rw [ha] at hcp; rw [hcp, hr0] at hde; cases hde
      | some x =>
        obtain ⟨an, h2⟩ := x
        obtain ⟨c1, w1, st1, hn⟩ := opA_ok T r1 hopn hg hρ o ha
        rw [ha] at hcp
        have val : ∀ {v cv h3 c2 w2}, Step c1 h2 w1 c2 h3 w2 → cEff E d base ops.size i sto s.ws s.pend s.done v h3 = core E call d ops.toList base ops.size i o s.fr.tm s.ws s.pend s.done s.h → crel c2 w2 v cv → K (a.put o.dst cv) w2 := by
          intro v cv h3 c2 w2 st2 hce hv
          cases hcv : cEff E d base ops.size i sto s.ws s.pend s.done v h3 with
          | none => rw [← hce, hcv, hr0] at hde; cases hde
          | some rr =>
            obtain ⟨rfl, _, hb⟩ := cEff_val hcv
            exact go (hce.symm.trans hcv) hv fun fr => I.next hl hbit (st1.trans st2) (ble_t hb) _ fr
        have stp : ∀ {v cv h3 c2 w2}, Step c1 h2 w1 c2 h3 w2 → cStop d i v h3 = core E call d ops.toList base ops.size i o s.fr.tm s.ws s.pend s.done s.h → crel c2 w2 v cv → EPost c0 h0 w0 e fr' h' (.panic [{ v := cv, recovered := false }]) a w2 := by
          intro v cv h3 c2 w2 st2 hce hv
          cases hcv : cStop d i v h3 with
          | none => rw [← hce, hcv, hr0] at hde; cases hde
          | some rr =>
            unfold cStop at hcv
            obtain ⟨hb, hcv'⟩ := cond_some hcv
            cases hcv'
            refine halt (hce.symm.trans (by unfold cStop; rw [hb]; rfl)) hv (I.stop (st1.trans st2))
        cases an with
        | val v =>
          obtain ⟨cv, hrun, hv⟩ := hn
          have key := val (Step.refl st1.rel) hcp.symm hv
          rcases hrun with hrun | ⟨rfl, hrun⟩ <;> rw [hrun] <;> exact key
        | panic v =>
          obtain ⟨cv, hrun, hv⟩ := hn
          rw [hrun]
          exact stp (Step.refl st1.rel) hcp.symm hv
        | enter g args =>
          obtain ⟨A, hrun, hA⟩ := hn
          rw [hrun, Oper.uponIn_enter]
          refine ⟨(fun hh => by cases hh), ?_⟩
          simp only [cAft] at hcp
          cases hcall : call g args h2 with
          | none => rw [hcall] at hcp; rw [hcp, hr0] at hde; cases hde
          | some rr =>
            obtain ⟨res, h3⟩ := rr
            rw [hcall] at hcp
            have hcc : CallsIn (FR none) (nn - 1) P g A w1 (CPost c1 h2 w1 res h3) := hc g args h2 res h3 hcall c1 w1 A st1.rel hA (nn - 1)
            refine hcc.mono fun en w2 hpost => ?_
            obtain ⟨c2, st2, hpost⟩ := hpost
            cases res with
            | ret v =>
              obtain ⟨cv, rfl, hv⟩ := hpost
              exact val st2 hcp.symm hv
            | panic v =>
              obtain ⟨cv, rfl, hv⟩ := hpost
              exact stp st2 hcp.symm hv
        | _ => simp only [cAft] at hcp; rw [hcp, hr0] at hde; cases hde
    have hp0 := hp
    unfold plan at hp
    rw [hw] at hp
    cases hk : kindOf o.op with
    | pure =>
      rw [hk] at hp
      dsimp only at hp
      split at hp
      · rename_i v h2 he
        split at hp
        · rename_i hgn
          obtain ⟨hb, hp⟩ := cond_some hp
          exact free he (beq_t hb) (fun C hC => by cases hC) (Option.some.inj hp).symm
        · cases hp
      · cases hp
    | alloc =>
      rw [hk] at hp
      dsimp only at hp
      split at hp
      · rename_i v h2 he
        obtain ⟨hb, hp⟩ := cond_some hp
        exact free he (beq_t hb) (fun C hC => hC) (Option.some.inj hp).symm
      · cases hp
    | read =>
      rw [hk] at hp
      simp only [Option.some.injEq] at hp
      subst hp
      simp only [cDo] at hcp
      cases ha : rdRun E (fl base ops.size (d.before i) s.done s.pend s.h) (rdOf s.fr.tm o.op) with
      | none => rw [ha] at hcp; rw [hcp, hr0] at hde; cases hde
      | some x =>
        obtain ⟨an, h2⟩ := x
        cases an with
        | val v =>
          have e2 := rdRun_heap ha
          rw [ha] at hcp
          rw [← rd_op (nid := base + i) hk] at ha
          subst e2
          obtain ⟨c', w', st, cv, hrun, hv⟩ := opA_ok T r1 hopn hg hρ o ha
          have key : K (a.put o.dst cv) w' := go hcp hv fun fr => I.next_read hl st _ fr
          rcases hrun with hrun | ⟨rfl, hrun⟩ <;> rw [hrun] <;> exact key
        | _ => rw [ha] at hcp; simp only [] at hcp; rw [hcp, hr0] at hde; cases hde
    | store =>
      rw [hk] at hp
      dsimp only at hp
      split at hp
      · exact eff (Option.some.inj hp).symm
      · cases hp
    | eff =>
      rw [hk] at hp
      exact eff (Option.some.inj hp).symm
    | bad => rw [hk] at hp; cases hp
end
end Rfx
