/- Calls, third part: leaving; a function's body; the machine as a whole is sound. -/
import Derived.Test.YtnjpcjnkhelfoabGreatDoorRfxCall2
set_option linter.unusedSectionVars false
set_option linter.unusedVariables false
set_option linter.unusedSimpArgs false
set_option linter.unnecessarySimpa false
namespace Rfx
open Go
variable [Val]

section
variable {P : Program} {E : Env} {c c' : Cx} {h h' : AH} {w w' : World}

theorem doEnter_enter (T : TabOK P E) {g g' : Nat} {a a' : List AV} (e : doEnter E h g a = some (.enter g' a', h')) (A : Array Value) (w : World) : g' = g ∧ a' = a ∧ h' = h ∧ (callFunc g A).run P w = .ok (.enter g A) w := by
  unfold doEnter at e
  cases hx : E.ext g a with
  | some v => rw [hx] at e; cases e
  | none =>
    rw [hx] at e
    dsimp only at e
    cases hf : E.fn g with
    | none => rw [hf] at e; cases e
    | some fn =>
      rw [hf] at e
      obtain ⟨e1, e2⟩ := cond_some e
      simp only [Option.some.injEq, Prod.mk.injEq, AN.enter.injEq] at e2
      obtain ⟨⟨rfl, rfl⟩, rfl⟩ := e2
      obtain ⟨h1, h2⟩ := T.fn g fn hf
      have hn : (fn.name == "runtime.NumGoroutine") = false := by simpa using h2
      have hb : fn.body.isNone = false := by cases hbb : fn.body <;> simp_all
      exact ⟨rfl, rfl, rfl, by simp only [callFunc, Sem.run_bind, run_program, Result.andThen_ok, h1, hn, hb, Bool.false_eq_true, if_false, Sem.run_pure]⟩

theorem MRel.mono {p : Option AV} {u : FrameMode} (m : Mono c w c' w') (hu : MRel c w p u) : MRel c' w' p u := by
  cases p with
  | none => exact hu
  | some v => obtain ⟨cv, h1, h2⟩ := hu; exact ⟨cv, h1, crel_mono m _ _ h2⟩

theorem MRel.run {p : Option AV} {u : FrameMode} (hu : MRel c w p u) : u ≠ .run := by
  cases p with
  | none => simp only [MRel] at hu; rw [hu]; simp
  | some v => obtain ⟨cv, h1, h2⟩ := hu; rw [h1]; simp

theorem leaves_ok (T : FnOK P E) {call : Call} (hc : CallOK P call) {n0 : Nat} {fn : Func} {tm : Tr AV} {tmps : Array Value} {c0 : Cx} {h0 : AH} {w0 : World} (hb : c0.base = w0.heap.size) {res : Res} (n : Nat) :
    ∀ (dfs : List DF) (ds : List Deferred) (p : Option AV) (h : AH) (c : Cx) (w : World) (u : FrameMode), finishA E fn tm (runDefers E (dcall E call n0) dfs p h) = some (res, h') →
      Step c0 h0 w0 c h w → TRel c w tm tmps → DFRel c h w dfs ds → MRel c w p u → LeavesInM (FR none) n P fn tmps (CPost c0 h0 w0 res h') ds u w := by
  intro dfs
  induction dfs with
  | nil =>
    intro ds p h c w u he s ht hd hu
    simp only [DFRel] at hd
    subst hd
    simp only [runDefers] at he
    cases p with
    | none =>
      simp only [MRel] at hu
      subst hu
      simp only [finishA] at he
      cases hr : resultsA E fn tm h with
      | none => rw [hr] at he; cases he
      | some v =>
        rw [hr] at he
        simp only [Option.some.injEq, Prod.mk.injEq] at he
        obtain ⟨rfl, rfl⟩ := he
        obtain ⟨x, h1, h2⟩ := results_ok T.tab s.rel ht hr
        exact ⟨x, h1, c, s, x, rfl, h2⟩
    | some v =>
      obtain ⟨cv, rfl, hv⟩ := hu
      simp only [finishA, Option.some.injEq, Prod.mk.injEq] at he
      obtain ⟨rfl, rfl⟩ := he
      exact ⟨c, s, cv, rfl, hv⟩
  | cons df dfs ih =>
    intro ds p h c w u he s ht hd hu
    cases df with
    | mark =>
      obtain ⟨blk, ds', rfl, h2, h3, ⟨h4, h5, h6⟩, h7⟩ := hd
      simp only [runDefers] at he
      have hlo : w0.heap.size ≤ blk := by rw [← hb, ← s.base]; exact h5
      have m := Mono.touch (x := .deferred none) s.rel h2 h4
      exact ⟨hu.run, .inl ⟨blk, _, rfl, run_takeDeferred h2, ih ds' p h c _ u he (s.touch h2 h4 h3 hlo) (ht.mono m) (h7.touch m h6) (hu.mono m)⟩⟩
    | call f args =>
      obtain ⟨d, ds', rfl, ⟨g, x, y, A, B, X, rfl, rfl, k3, k4, k5⟩, h3⟩ := hd
      simp only [runDefers, callA] at he
      cases hde : doEnter E h g (x ++ args ++ y) with
      | none => rw [hde] at he; cases he
      | some z =>
        obtain ⟨an, h1⟩ := z
        rw [hde] at he
        cases an with
        | enter g' a' =>
          obtain ⟨rfl, rfl, rfl, hrun⟩ := doEnter_enter T.tab hde (A ++ X ++ B) w
          dsimp only at he
          cases hdc : dcall E call n0 g' (x ++ args ++ y) p h1 with
          | none => rw [hdc] at he; cases he
          | some q =>
            obtain ⟨b, h2⟩ := q
            rw [hdc] at he
            dsimp only at he
            have hall : crels c w (x ++ args ++ y) (A ++ X ++ B).toList := by
              simp only [Array.toList_append]
              exact crels_append (crels_append k3 k5) k4
            have hbp : b = p.isSome := (dcall_ok T hc hdc s.rel hall hu (n - 1) (R := fun _ _ _ => True) fun _ _ _ _ _ _ => trivial).1
            have hnone : (bif b then none else p) = none := by rw [hbp]; cases p <;> rfl
            rw [hnone] at he
            refine ⟨hu.run, .inr ⟨(fun hh => by cases hh), .func g', B, g', A ++ X ++ B, rfl, hrun, fun _ _ => trivial, ?_⟩⟩
            refine (dcall_ok T hc hdc s.rel hall hu (n - 1) fun c' w' v u' s' hset => ?_).2
            show LeavesInM (FR none) n P fn tmps (CPost c0 h0 w0 res h') ds' (settle u') w'
            have s2 := Step.at s.rel s'
            rw [hset]
            exact ih ds' none h2 _ w' .returning he (s.trans s2) (ht.mono (s2.mono s.rel)) (h3.step s.rel s2) rfl
        | _ => cases he

theorem CPost.at {n : Nat} (r : HRel c h w) {res : Res} {en : Ending} (hp : CPost (c.at n) h w res h' en w') : CPost c h w res h' en w' := by
  obtain ⟨c', s, hp⟩ := hp
  refine ⟨c'.at c.base, Step.at r s, ?_⟩
  cases res with
  | ret v => obtain ⟨cv, h1, h2⟩ := hp; exact ⟨cv, h1, crel_mono (Mono.at _ _ _) _ _ h2⟩
  | panic v => obtain ⟨cv, h1, h2⟩ := hp; exact ⟨cv, h1, crel_mono (Mono.at _ _ _) _ _ h2⟩

theorem body_ok (T : FnOK P E) {call : Call} (hc : CallOK P call) (n0 : Nat) : CallOK P (bodyA E call n0) := by
  intro f args h res h' e c w A r hA n
  unfold bodyA at e
  cases hcon : E.con f args with
  | some v =>
    rw [hcon] at e
    simp only [Option.some.injEq, Prod.mk.injEq] at e
    obtain ⟨rfl, rfl⟩ := e
    exact T.con f args v hcon c h w A n r hA
  | none =>
  rw [hcon] at e
  dsimp only at e
  cases hf : E.fn f with
  | none => rw [hf] at e; cases e
  | some fn =>
  rw [hf] at e
  dsimp only at e
  split at e
  · rename_i cd fr hb hfr
    have r1 : HRel (c.at w.heap.size) h w := r.at (Nat.le_refl _)
    obtain ⟨f0, hd0⟩ := startFr_ok (h := h) (crels_mono (Mono.at c w w.heap.size) _ _ hA) hfr
    have hfuncs := (T.tab.fn f fn hf).1
    refine (callsIn_of_wp_marks (R := CPost (c.at w.heap.size) h w res h') hfuncs hb trivial ?_).mono fun en w' hp => hp.at r
    cases hx : exec E call (yieldA E call n0) false f n0 cd fr h with
    | none => rw [hx] at e; cases e
    | some x =>
    obtain ⟨ex, fr1, h1⟩ := x
    rw [hx] at e
    refine wpIn_mono (exec_all T hc (yield_ok T.tab hc n0) f n0 cd (T.draws f fn cd hf hb) _ _ _ _ _ _ _ _ hx r1 f0 n) fun exc a' w' hp => ?_
    obtain ⟨c', s', f', hxr⟩ := hp
    cases ex with
    | normal =>
      simp only [XRel] at hxr
      subst hxr
      exact leaves_ok T hc rfl n fr1.dfs a'.defers none h1 c' w' .returning e s' f'.tm f'.dfs rfl
    | ret =>
      simp only [XRel] at hxr
      subst hxr
      exact leaves_ok T hc rfl n fr1.dfs a'.defers none h1 c' w' .returning e s' f'.tm f'.dfs rfl
    | panic v =>
      obtain ⟨cv, rfl, hv⟩ := hxr
      exact leaves_ok T hc rfl n fr1.dfs a'.defers (some v) h1 c' w' (.panicking [{ v := cv, recovered := false }]) e s' f'.tm f'.dfs ⟨cv, rfl, hv⟩
    | exit i => cases e
  · cases e

/-- the abstract machine is sound -/
theorem evalN_ok (T : FnOK P E) : ∀ n, CallOK P (evalN E n)
  | 0 => fun _ _ _ _ _ e => by cases e
  | n + 1 => body_ok T (evalN_ok T n) n
end
end Rfx
