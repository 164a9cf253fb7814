/- Drawn regions, last part: whatever order is drawn, the abstract run's answer is met. -/
import Derived.Test.YtnjpcjnkhelfoabGreatDoorRfxBub
set_option linter.unusedSectionVars false
set_option linter.unusedVariables false
set_option linter.unusedSimpArgs false
set_option linter.unnecessarySimpa false
namespace Rfx
open Go
variable [Val]

section
variable {P : Program} {E : Env} {call : Call} {d : Dw} {base n : Nat}

/-! ### what waits, in the heap -/
theorem flushN_some {p done : Nat} {pend bs : Tr AB} {B : AB} : ∀ {m k : Nat}, k < m → p.testBit k = true → done.testBit k = false → pend.get k = some B → (flushN base p done pend bs m).get (base + k) = some B
  | 0, k, h, _, _, _ => by omega
  | m + 1, k, h, h1, h2, h3 => by
    rw [flushN_succ]
    by_cases e : k = m
    · subst e
      rw [h1, h2, h3]; simp only [Bool.not_false, Bool.and_true, cond_true]
      exact Tr.get_set_same _ _ _
    · have ih := flushN_some (bs := bs) (m := m) (by omega) h1 h2 h3
      cases hb : (p.testBit m && !done.testBit m) with
      | false => exact ih
      | true =>
        simp only [cond_true]
        cases hp : pend.get m with
        | none => exact ih
        | some C => rw [← ih]; exact Tr.get_set_ne _ _ (by omega)

theorem flushN_other {p done : Nat} {pend bs : Tr AB} {o : Nat} : ∀ {m : Nat}, (∀ k, k < m → o = base + k → p.testBit k = true → done.testBit k = false → pend.get k = none) → (flushN base p done pend bs m).get o = bs.get o
  | 0, _ => rfl
  | m + 1, h => by
    have ih := flushN_other (bs := bs) (m := m) fun k hk => h k (by omega)
    rw [flushN_succ]
    cases hb : (p.testBit m && !done.testBit m) with
    | false => exact ih
    | true =>
      simp only [cond_true]
      cases hp : pend.get m with
      | none => exact ih
      | some C =>
        by_cases e : o = base + m
        · simp only [Bool.and_eq_true, Bool.not_eq_true'] at hb
          rw [h m (by omega) e hb.1 hb.2] at hp; cases hp
        · rw [← ih]; exact Tr.get_set_ne _ _ fun h => e h.symm

noncomputable def allH (base n : Nat) (s : DS) : AH := fl base n (2 ^ n - 1) s.done s.pend s.h

theorem allH_next {s : DS} : (allH base n s).next = s.h.next := by rw [allH, fl_eq]

theorem allH_some {s : DS} {k : Nat} {B : AB} (hk : k < n) (h1 : s.done.testBit k = false) (h2 : s.pend.get k = some B) : (allH base n s).bs.get (base + k) = some B := by
  rw [allH, fl_eq]
  exact flushN_some hk (by rw [Nat.testBit_two_pow_sub_one]; simpa using hk) h1 h2

theorem allH_other {s : DS} {o : Nat} (h : ∀ k, k < n → o = base + k → s.done.testBit k = false → s.pend.get k = none) : (allH base n s).bs.get o = s.h.bs.get o := by
  rw [allH, fl_eq]
  exact flushN_other fun k hk e _ h2 => h k hk e h2

theorem allH_cases {s : DS} {o : Nat} {B : AB} (h : (allH base n s).bs.get o = some B) : (∃ k, k < n ∧ o = base + k ∧ s.done.testBit k = false ∧ s.pend.get k = some B) ∨ s.h.bs.get o = some B := by
  by_cases hk : ∃ k, k < n ∧ o = base + k ∧ s.done.testBit k = false ∧ s.pend.get k ≠ none
  · obtain ⟨k, h1, rfl, h3, h4⟩ := hk
    obtain ⟨C, hC⟩ := Option.ne_none_iff_exists'.1 h4
    rw [allH_some h1 h3 hC] at h
    cases h
    exact .inl ⟨k, h1, rfl, h3, hC⟩
  · right
    rw [← h]
    refine (allH_other fun k h1 h2 h3 => ?_).symm
    cases hp : s.pend.get k with
    | none => rfl
    | some C => exact absurd ⟨k, h1, h2, h3, by rw [hp]; simp⟩ hk

/-! ### the invariant -/
structure DInv (c0 : Cx) (h0 : AH) (w0 : World) (d : Dw) (base n : Nat) (c : Cx) (w : World) (s : DS) (l : List Nat) : Prop where
  step : Step c0 h0 w0 (c.keep c0.rsv) (allH base n s) w
  free : ∀ k ∈ l, c.loc (base + k) = none
  fresh0 : ∀ o, base ≤ o → ¬ c0.rsv o
  lt : ∀ k ∈ l, k < n
  lo : base + n ≤ s.h.next
  hi : s.h.next ≤ far base
  ndone : ∀ k ∈ l, s.done.testBit k = false
  npend : ∀ k ∈ l, s.pend.get k = none
  out : ∀ k, k < n → s.done.testBit k = false → s.pend.get k ≠ none → s.h.bs.get (base + k) = none

def RL (c0 : Cx) (base : Nat) (l : List Nat) : Nat → Prop := fun o => c0.rsv o ∨ ∃ k ∈ l, o = base + k

theorem DInv.RL_hi {c0 : Cx} {h0 : AH} {w0 : World} {c : Cx} {w : World} {s : DS} {l l' : List Nat} (I : DInv c0 h0 w0 d base n c w s l) (hl : ∀ k ∈ l', k ∈ l) {o : Nat} (ho : s.h.next ≤ o) : ¬ RL c0 base l' o := by
  rintro (h | ⟨k, hk, rfl⟩)
  · exact I.fresh0 o (by have := I.lo; omega) h
  · have := I.lo; have := I.lt k (hl k hk); omega

theorem DInv.rel {c0 : Cx} {h0 : AH} {w0 : World} {c : Cx} {w : World} {s : DS} {l l' : List Nat} (I : DInv c0 h0 w0 d base n c w s l) (hl : ∀ k ∈ l', k ∈ l) : HRel (c.keep (RL c0 base l')) (allH base n s) w :=
  I.step.rel.keep (R := RL c0 base l') fun o ho => I.RL_hi hl (by rwa [allH_next] at ho)

/-- the part of the heap that an operation sees -/
theorem DInv.part {c0 : Cx} {h0 : AH} {w0 : World} {c : Cx} {w : World} {s : DS} {l : List Nat} (I : DInv c0 h0 w0 d base n c w s l) (p : Nat) {o : Nat} {B : AB} (h : (fl base n p s.done s.pend s.h).bs.get o = some B) :
    (allH base n s).bs.get o = some B := by
  rw [fl_eq] at h
  by_cases hk : ∃ k, k < n ∧ o = base + k ∧ p.testBit k = true ∧ s.done.testBit k = false ∧ s.pend.get k ≠ none
  · obtain ⟨k, h1, rfl, h2, h3, h4⟩ := hk
    obtain ⟨C, hC⟩ := Option.ne_none_iff_exists'.1 h4
    rw [flushN_some h1 h2 h3 hC] at h
    cases h
    exact allH_some h1 h3 hC
  · rw [flushN_other fun k h1 h2 h3 h4 => ?_] at h
    · rw [allH_other fun k h1 h2 h3 => ?_]; exact h
      cases hp : s.pend.get k with
      | none => rfl
      | some C =>
        have := I.out k h1 h3 (by rw [hp]; simp)
        subst h2
        rw [this] at h; cases h
    · cases hp : s.pend.get k with
      | none => rfl
      | some C => exact absurd ⟨k, h1, h2, h3, h4, by rw [hp]; simp⟩ hk

theorem FRel.putF {c : Cx} {h : AH} {w : World} {fr fr' : Fr} {a : Act} {dst : Option Nat} {v : AV} {cv : Value} (f : FRel c h w fr a) (hv : crel c w v cv) (e : Rfx.putF fr dst v = some fr') : FRel c h w fr' (a.put dst cv) := by
  have : putA fr dst v (fun f => some (.normal, f, h)) = some (.normal, fr', h) := by
    cases dst with
    | none => cases e; rfl
    | some t =>
      simp only [Rfx.putF] at e
      obtain ⟨e1, e2⟩ := cond_some e
      cases e2
      show Bool.rec (motive := fun _ => Out) none _ (Nat.blt t fr.n) = _
      rw [e1]
  obtain ⟨fr2, k1, k2, _⟩ := f.put hv this
  simp only [Option.some.injEq, Prod.mk.injEq, true_and, and_true] at k1
  subst k1
  exact k2

theorem TRel.clear {c : Cx} {w : World} {tmps : Array Value} : ∀ {l : List Oper} {tm : Tr AV}, TRel c w tm tmps → TRel c w (clearD l tm) tmps
  | [], _, h => h
  | o :: l, tm, h => by
    simp only [clearD]
    cases o.dst with
    | none => exact TRel.clear h
    | some t => exact TRel.clear (h.reset (crel_undef _))

theorem one1_heap {h h' : AH} {agg : Bool} {cs : List AV} {n : AN} (e : one1 agg cs h = some (n, h')) : h' = h := by
  unfold one1 at e
  cases agg with
  | true => simp only [cond_true, Option.some.injEq, Prod.mk.injEq] at e; exact e.2.symm
  | false =>
    simp only [cond_false] at e
    split at e
    · simp only [Option.some.injEq, Prod.mk.injEq] at e; exact e.2.symm
    · cases e

theorem rdRun_heap {h h' : AH} {r : Rd} {n : AN} (e : rdRun E h r = some (n, h')) : h' = h := by
  cases r with
  | none => cases e
  | load t p =>
    simp only [rdRun, doLoad] at e
    split at e
    · split at e
      · exact one1_heap e
      · cases e
    · cases e
  | look t m k ok =>
    simp only [rdRun, doLookup] at e
    split at e
    · split at e
      · split at e
        · rename_i es _
          rename_i key _ _ _ _ _ _ _ _ _ _ _
          cases hb : (keyFits E key k && keysFit E key es) with
          | true =>
            rw [hb, cond_true] at e
            split at e
            · simp only [found, Option.some.injEq, Prod.mk.injEq] at e; exact e.2.symm
            · split at e
              · split at e
                · simp only [found, Option.some.injEq, Prod.mk.injEq] at e; exact e.2.symm
                · cases e
              · cases e
          | false =>
            rw [hb, cond_false] at e
            obtain ⟨_, e⟩ := cond_some e
            split at e
            · split at e
              · simp only [found, Option.some.injEq, Prod.mk.injEq] at e; exact e.2.symm
              · cases e
            · cases e
        · cases e
      · cases e
    · cases e

theorem rd_op {nid : Nat} {tm : Tr AV} {o : Op} {h : AH} (hk : kindOf o = .read) : opA E nid tm o h = rdRun E h (rdOf tm o) := by
  cases o with
  | load t a => rfl
  | lookup t m k ok => rfl
  | call c =>
    simp only [kindOf] at hk
    cases hc : c.callee with
    | builtin b => rw [hc] at hk; cases b <;> cases hk
    | _ => rw [hc] at hk; cases hk
  | makeMap t r => cases r <;> cases hk
  | _ => cases hk
end

section
variable {P : Program} {E : Env} {call : Call} {d : Dw} {ops : Array Oper} {base : Nat} {c0 : Cx} {h0 : AH} {w0 : World} {e : AE} {fr' : Fr} {h' : AH}

/-- behind a step on the part of the heap that the operation sees -/
theorem DInv.next {c : Cx} {w : World} {s : DS} {l l' : List Nat} (I : DInv c0 h0 w0 d base ops.size c w s l) (hl : ∀ k ∈ l', k ∈ l) {q : Nat} (hq : ∀ k ∈ l, q.testBit k = false)
    {c' : Cx} {h2 : AH} {w' : World} (st : Step (c.keep (RL c0 base l')) (fl base ops.size q s.done s.pend s.h) w c' h2 w') (hi : h2.next ≤ far base) (ws : List Wt) (fr : Fr) :
    DInv c0 h0 w0 d base ops.size c' w' ⟨ws, s.pend, s.done ||| q, fr, h2⟩ l' ∧ Step (c.keep c0.rsv) (allH base ops.size s) w (c'.keep c0.rsv) (allH base ops.size ⟨ws, s.pend, s.done ||| q, fr, h2⟩) w' := by
  have hn1 : (fl base ops.size q s.done s.pend s.h).next = s.h.next := by rw [fl_eq]
  have hn2 : s.h.next ≤ h2.next := by rw [← hn1]; exact st.next
  have hor : ∀ {k}, (s.done ||| q).testBit k = false → s.done.testBit k = false ∧ q.testBit k = false := fun {k} h => by
    rw [Nat.testBit_or] at h
    simpa [Bool.or_eq_false_iff] using h
  have hpart : ∀ {k}, k < ops.size → (s.done ||| q).testBit k = false → s.pend.get k ≠ none → (fl base ops.size q s.done s.pend s.h).bs.get (base + k) = none := by
    intro k h1 h2 h3
    obtain ⟨a, b⟩ := hor h2
    rw [fl_eq, flushN_other fun k' _ e hb _ => ?_]
    · exact I.out k h1 a h3
    · have : k' = k := by omega
      subst this
      rw [b] at hb; cases hb
  have r := I.rel (l' := l') hl
  have sub := fun o B => I.part (o := o) (B := B) q
  have S : Step ((c.keep (RL c0 base l')).keep c0.rsv) (allH base ops.size s) w (c'.keep c0.rsv) (allH base ops.size ⟨ws, s.pend, s.done ||| q, fr, h2⟩) w' := by
    refine Step.frame (R0 := c0.rsv) (R := c0.rsv) (h := fl base ops.size q s.done s.pend s.h) (h' := h2) I.step.rel sub st (by rw [allH_next, allH_next]; exact hn2) ?_ ?_ ?_ ?_
    · intro o B ho
      rcases allH_cases ho with ⟨k, h1, rfl, h3, h4⟩ | ho
      · right
        dsimp only at h3 h4
        exact ⟨allH_some h1 (hor h3).1 h4, hpart h1 h3 (by rw [h4]; simp)⟩
      · exact .inl ho
    · intro o ho
      rw [allH_next] at ho
      exact (st.rel.fresh o ho).1.1
    · intro o ho
      rw [allH_next] at ho
      exact I.fresh0 o (by have := I.lo; dsimp only at ho; omega)
    · intro o ho
      exact ⟨ho, (st.rsv o (.inl ho)).2⟩
  refine ⟨⟨I.step.trans S, fun k hk => ?_, I.fresh0, fun k hk => I.lt k (hl k hk), by have := I.lo; dsimp only; omega, hi, fun k hk => ?_, fun k hk => I.npend k (hl k hk), ?_⟩, S⟩
  · rw [(st.rsv (base + k) (.inr ⟨k, hk, rfl⟩)).2]
    exact I.free k (hl k hk)
  · dsimp only
    rw [Nat.testBit_or, I.ndone k (hl k hk), hq k (hl k hk)]; rfl
  · intro k h1 h3 h4
    dsimp only at h3 h4 ⊢
    obtain ⟨B, hB⟩ := Option.ne_none_iff_exists'.1 h4
    cases hh : h2.bs.get (base + k) with
    | none => rfl
    | some C =>
      exfalso
      have hl2 : live h2 (base + k) := by unfold live; rw [hh]; simp
      have hA := allH_some (base := base) h1 (hor h3).1 hB
      obtain ⟨b, x, q1, _⟩ := r.get hA
      rcases st.live' (base + k) b x hl2 (st.loc _ _ q1) with ⟨o', x', l', e'⟩ | hge
      · obtain ⟨D, hD⟩ := Option.ne_none_iff_exists'.1 l'
        have := r.inj o' (base + k) b x' x (by unfold live; rw [sub o' D hD]; simp) (by unfold live; rw [hA]; simp) e' q1
        subst this
        exact l' (hpart h1 h3 h4)
      · have := r.lt _ _ _ q1; omega

/-- behind a make of memory -/
theorem DInv.next_free {c : Cx} {w : World} {s : DS} {i : Nat} {l l' : List Nat} (I : DInv c0 h0 w0 d base ops.size c w s l) (hl : ∀ k ∈ l', k ∈ l) (hil : i ∈ l) (hil' : i ∉ l')
    {c' : Cx} {h2 : AH} {w' : World} (st : Step (c.keep fun o => RL c0 base l' o ∨ (s.h.next ≤ o ∧ o < far base)) ⟨far base, .nil⟩ w c' h2 w') (hi : h2.next = far base) {B : Option AB} (hB : ∀ C, B = some C → h2.bs.get (base + i) = some C) (ws : List Wt) (fr : Fr) :
    DInv c0 h0 w0 d base ops.size c' w' ⟨ws, setO s.pend i B, s.done, fr, s.h⟩ l' ∧ Step (c.keep c0.rsv) (allH base ops.size s) w (c'.keep c0.rsv) (allH base ops.size ⟨ws, setO s.pend i B, s.done, fr, s.h⟩) w' := by
  have r := I.rel (l' := l') hl
  have hin := I.lt i hil
  have S : Step ((c.keep fun o => RL c0 base l' o ∨ (s.h.next ≤ o ∧ o < far base)).keep c0.rsv) (allH base ops.size s) w (c'.keep c0.rsv) (allH base ops.size ⟨ws, setO s.pend i B, s.done, fr, s.h⟩) w' := by
    refine Step.frame (R0 := c0.rsv) (R := c0.rsv) (h := ⟨far base, .nil⟩) (h' := h2) I.step.rel (fun o B e => by cases e) st (by rw [allH_next, allH_next]; exact Nat.le_refl _) ?_ ?_ ?_ ?_
    · intro o C ho
      rcases allH_cases ho with ⟨k, h1, rfl, h3, h4⟩ | ho
      · dsimp only at h3 h4
        by_cases e : i = k
        · subst e
          cases hBB : B with
          | none => rw [hBB] at h4; simp only [setO] at h4; rw [I.npend i hil] at h4; cases h4
          | some D =>
            rw [hBB] at h4
            simp only [setO, Tr.get_set_same, Option.some.injEq] at h4
            subst h4
            exact .inl (hB D hBB)
        · rw [get_setO e] at h4
          exact .inr ⟨allH_some h1 h3 h4, rfl⟩
      · right
        refine ⟨?_, rfl⟩
        rw [allH_other fun k h1 h2 h3 => ?_]; exact ho
        cases hp : s.pend.get k with
        | none => rfl
        | some D =>
          have := I.out k h1 h3 (by rw [hp]; simp)
          subst h2
          dsimp only at ho
          rw [this] at ho; cases ho
    · intro o ho
      rw [allH_next] at ho
      dsimp only at ho
      by_cases hf : far base ≤ o
      · exact (st.rel.fresh o (by rw [hi]; exact hf)).1.1
      · rw [(st.rsv o (.inr ⟨ho, by omega⟩)).2]
        exact (I.step.rel.fresh o (by rw [allH_next]; exact ho)).1.1
    · intro o ho
      rw [allH_next] at ho
      exact I.fresh0 o (by have := I.lo; dsimp only at ho; omega)
    · intro o ho
      exact ⟨ho, (st.rsv o (.inl (.inl ho))).2⟩
  refine ⟨⟨I.step.trans S, fun k hk => ?_, I.fresh0, fun k hk => I.lt k (hl k hk), I.lo, I.hi, fun k hk => I.ndone k (hl k hk), fun k hk => ?_, ?_⟩, S⟩
  · rw [(st.rsv (base + k) (.inl (.inr ⟨k, hk, rfl⟩))).2]
    exact I.free k (hl k hk)
  · dsimp only
    rw [get_setO (by rintro rfl; exact hil' hk)]
    exact I.npend k (hl k hk)
  · intro k h1 h3 h4
    dsimp only at h3 h4 ⊢
    by_cases e : i = k
    · subst e
      have hA : (allH base ops.size s).bs.get (base + i) = s.h.bs.get (base + i) := allH_other fun k h1 h2 h3 => by
        have : k = i := by omega
        subst this
        exact I.npend k hil
      cases hh : s.h.bs.get (base + i) with
      | none => rfl
      | some C =>
        rw [hh] at hA
        obtain ⟨b, x, q1, _⟩ := r.get hA
        have := I.free i hil
        rw [show (c.keep (RL c0 base l')).loc (base + i) = c.loc (base + i) from rfl, this] at q1
        cases q1
    · rw [get_setO e] at h4
      exact I.out k h1 h3 h4
end
end Rfx
