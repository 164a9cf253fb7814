/- Calls: the results; deferred calls; a function's body. -/
import Derived.Test.YtnjpcjnkhelfoabGreatDoorRfxRange
import Derived.Tactics
set_option linter.unusedSectionVars false
set_option linter.unusedVariables false
set_option linter.unusedSimpArgs false
set_option linter.unnecessarySimpa false
namespace Rfx
open Go
variable [Val]

section
variable {P : Program} {E : Env} {c c' : Cx} {h h' : AH} {w w' : World}

/-! ### results -/
theorem load_var (T : TabOK P E) (r : HRel c h w) {t : Nat} {p v : AV} {cv : Value} (hp : crel c w p cv) (e : doLoad E h t p = some (.val v, h')) :
    ∃ a x, cv = .pointer (some a) ∧ (loadVar t a).run P w = .ok x w ∧ crel c w v x := by
  unfold doLoad at e
  cases ht : E.ty t with
  | none => rw [ht] at e; cases e
  | some i =>
    have Ti := T.ty t i ht
    rw [ht] at e
    dsimp only at e
    cases hr : readPtr h p i.size with
    | none => rw [hr] at e; cases e
    | some cs =>
      rw [hr] at e
      dsimp only at e
      obtain ⟨hl, b, off, vs, rfl, h1, h2⟩ := readPtr_ok r hr hp
      have hlv : vs.length = i.size := (crels_length h1).trans hl
      unfold one1 at e
      cases ha : i.agg with
      | true =>
        rw [ha] at e
        simp only [cond_true, Option.some.injEq, Prod.mk.injEq, AN.val.injEq] at e
        obtain ⟨rfl, rfl⟩ := e
        refine ⟨_, .agg vs.toArray, rfl, ?_, ?_⟩
        · simp only [loadVar, Sem.run_bind, Ti.run_isAgg, Result.andThen_ok, ha, if_true, Ti.run_sizeOf, run_cells hlv h2, Sem.run_pure]
        · simp only [crel]; exact ⟨vs.toArray, rfl, by simpa using h1⟩
      | false =>
        rw [ha] at e
        simp only [cond_false] at e
        split at e
        · simp only [Option.some.injEq, Prod.mk.injEq, AN.val.injEq] at e
          obtain ⟨rfl, rfl⟩ := e
          obtain ⟨x, rfl, hx⟩ := crels_of_one h1
          have hc : w.cell? ⟨b, off, none⟩ = some x := by simpa using h2 0 x rfl
          exact ⟨_, x, rfl, by simp [loadVar, Ti.run_isAgg, ha, hc], hx⟩
        · cases e

def resF (tmps : Array Value) (x : ResultVar) : Sem Value :=
  match x with
  | .tmp t => pure (tmps.getD t undef)
  | .cell a t => do loadVar t (← asAddr (tmps.getD a undef))

theorem results_eq (fn : Func) (tmps : Array Value) : results fn tmps = (do
    let vs ← fn.results.mapM (resF tmps)
    pure (if h : vs.size = 1 then vs[0] else .tuple vs)) := by
  unfold results
  congr 1

theorem resA_ok (T : TabOK P E) (r : HRel c h w) {tm : Tr AV} {tmps : Array Value} (ht : TRel c w tm tmps) : ∀ {l : List ResultVar} {vs : List AV}, resA E tm h l = some vs →
    ∃ xs : List Value, (l.mapM (resF tmps)).run P w = .ok xs w ∧ crels c w vs xs
  | [], vs, e => by cases e; exact ⟨[], rfl, by simp [crels]⟩
  | .tmp t :: l, vs, e => by
    simp only [resA] at e
    cases hr : resA E tm h l with
    | none => rw [hr] at e; cases e
    | some us =>
      rw [hr] at e
      simp only [Option.some.injEq] at e
      subst e
      obtain ⟨xs, h1, h2⟩ := resA_ok T r ht hr
      refine ⟨tmps.getD t undef :: xs, ?_, ?_⟩
      · simp only [List.mapM_cons, resF, Sem.run_bind, Sem.run_pure, Result.andThen_ok, h1]
      · simp only [crels]; exact ⟨_, _, rfl, ht t, h2⟩
  | .cell a t :: l, vs, e => by
    simp only [resA] at e
    cases hd : doLoad E h t ((tm.get a).getD .undef) with
    | none => rw [hd] at e; cases e
    | some y =>
      obtain ⟨an, h2⟩ := y
      cases hr : resA E tm h l with
      | none => rw [hd, hr] at e; cases an <;> cases e
      | some us =>
        rw [hd, hr] at e
        cases an with
        | val v =>
          simp only [Option.some.injEq] at e
          subst e
          obtain ⟨xs, h1, h3⟩ := resA_ok T r ht hr
          obtain ⟨ad, x, k1, k2, k3⟩ := load_var T r (ht a) hd
          refine ⟨x :: xs, ?_, ?_⟩
          · simp only [List.mapM_cons, resF, Sem.run_bind, k1, asAddr, Sem.run_pure, Result.andThen_ok, k2, h1]
          · simp only [crels]; exact ⟨_, _, rfl, k3, h3⟩
        | _ => cases e

theorem results_ok (T : TabOK P E) (r : HRel c h w) {fn : Func} {tm : Tr AV} {tmps : Array Value} (ht : TRel c w tm tmps) {v : AV} (e : resultsA E fn tm h = some v) :
    ∃ x, (results fn tmps).run P w = .ok x w ∧ crel c w v x := by
  unfold resultsA at e
  cases hr : resA E tm h fn.results.toList with
  | none => rw [hr] at e; cases e
  | some vs =>
    rw [hr] at e
    simp only [Option.some.injEq] at e
    subst e
    obtain ⟨xs, h1, h2⟩ := resA_ok T r ht hr
    have hM : (fn.results.mapM (resF tmps)).run P w = .ok xs.toArray w := by
      rw [Array.mapM_eq_mapM_toList]
      simp only [Sem.run_map, h1, Result.andThen_ok]
    refine ⟨if h : xs.toArray.size = 1 then xs.toArray[0] else .tuple xs.toArray, ?_, ?_⟩
    · rw [results_eq, Sem.run_bind, hM]
      rfl
    · match vs, xs, h2 with
      | [v], [x], h2 =>
        simp only [crels] at h2
        obtain ⟨y, ys, he, h3, _⟩ := h2
        cases he
        exact h3
      | [], xs, h2 =>
        simp only [crels] at h2
        subst h2
        simp [tupA, crel, crels]
      | v :: u :: vs, xs, h2 =>
        have hl := crels_length h2
        have : ¬ xs.toArray.size = 1 := by simp at hl ⊢; omega
        rw [dif_neg this]
        simp only [tupA, crel]
        exact ⟨_, rfl, by simpa using h2⟩
      | [v], [], h2 => exact absurd (crels_length h2) (by simp)
      | [v], _ :: _ :: _, h2 => exact absurd (crels_length h2) (by simp)

/-! ### the frame at the start -/
theorem initTm_ok : ∀ {args : List AV} {vs : List Value} {i : Nat} {t : Tr AV}, crels c w args vs → ∀ k, (initTm i args t).get k = if i ≤ k ∧ k < i + args.length then args[k - i]? else t.get k
  | [], _, i, t, _, k => by
    simp only [initTm, List.length_nil]
    rw [if_neg (by omega)]
  | a :: args, vs, i, t, hr, k => by
    simp only [crels] at hr
    obtain ⟨v, vs', rfl, h1, h2⟩ := hr
    simp only [initTm]
    rw [initTm_ok h2 k]
    simp only [List.length_cons]
    by_cases e : i = k
    · subst e
      rw [if_neg (by omega), if_pos (by omega), Tr.get_set_same]
      simp
    · by_cases hk : i ≤ k ∧ k < i + (args.length + 1)
      · rw [if_pos (by omega), if_pos hk]
        rw [show k - i = (k - (i + 1)) + 1 by omega]
        simp
      · rw [if_neg (by omega), if_neg hk, Tr.get_set_ne _ _ e]

theorem startFr_ok {fn : Func} {args : List AV} {A : Array Value} {fr : Fr} (hA : crels c w args A.toList) (e : startFr fn args = some fr) :
    FRel c h w fr { tmps := A ++ Array.replicate (fn.ntmps - A.size) undef, defers := [] } ∧ fr.dfs = [] := by
  unfold startFr at e
  obtain ⟨e1, e2⟩ := cond_some e
  simp only [Option.some.injEq] at e2
  subst e2
  have hl : args.length = A.size := by have := crels_length hA; simpa using this.symm
  have hle := ble_t e1
  refine ⟨⟨fun t => ?_, ?_, rfl⟩, rfl⟩
  · dsimp only
    rw [initTm_ok hA t]
    by_cases ht : t < args.length
    · rw [if_pos (by omega), Nat.sub_zero, List.getElem?_eq_getElem ht, Option.getD_some]
      obtain ⟨v, v1, v2⟩ := crels_get _ hA (List.getElem?_eq_getElem ht)
      have : (A ++ Array.replicate (fn.ntmps - A.size) undef).getD t undef = v := by
        have hta : t < A.size := by omega
        have h1 : A[t]? = some v := by simpa using v1
        simp [Array.getD_eq_getD_getElem?, Array.getElem?_append, hta, h1]
        have := Array.getElem?_eq_getElem hta
        rw [h1] at this
        exact (Option.some.inj this).symm
      rw [this]; exact v2
    · rw [if_neg (by omega)]
      exact crel_undef _
  · simp; omega
end
end Rfx
