/- One operation: calls; and all operations together. -/
import Derived.Test.YtnjpcjnkhelfoabGreatDoorRfxMap
set_option linter.unusedSectionVars false
set_option linter.unusedVariables false
set_option linter.unusedSimpArgs false
set_option linter.unnecessarySimpa false
namespace Rfx
open Go
variable [Val]

section
variable {P : Program} {E : Env} {c : Cx} {h h' : AH} {w : World}

theorem doNil_ok (r : HRel c h w) {x : AV} {xv : Value} (hx : crel c w x xv) {n : AN} (e : doNil h x = some (n, h')) : h' = h ∧ n = .val x ∧ ∃ a, xv = .pointer (some a) := by
  unfold doNil at e
  split at e
  · simp only [Option.some.injEq, Prod.mk.injEq] at e
    obtain ⟨rfl, rfl⟩ := e
    simp only [crel] at hx
    obtain ⟨b, base, _, rfl⟩ := hx
    exact ⟨rfl, rfl, _, rfl⟩
  · simp only [Option.some.injEq, Prod.mk.injEq] at e
    obtain ⟨rfl, rfl⟩ := e
    simp only [crel] at hx
    obtain ⟨b, off, rfl, _⟩ := hx
    exact ⟨rfl, rfl, _, rfl⟩
  · cases e

theorem doEnter_ok (T : TabOK P E) (r : HRel c h w) {g : Nat} {a : List AV} {A : Array Value} (ha : crels c w a A.toList) {n : AN} (e : doEnter E h g a = some (n, h')) : OpOK P c h w (callFunc g A) n h' := by
  unfold doEnter at e
  cases hx : E.ext g a with
  | some v =>
    rw [hx] at e
    simp only [Option.some.injEq, Prod.mk.injEq] at e
    obtain ⟨rfl, rfl⟩ := e
    obtain ⟨cv, h1, h2⟩ := T.ext g a v hx c w A ha
    exact ⟨c, w, Step.refl r, cv, .inl h1, h2⟩
  | none =>
    rw [hx] at e
    dsimp only at e
    cases hf : E.fn g with
    | none => rw [hf] at e; cases e
    | some fn =>
      rw [hf] at e
      obtain ⟨e1, e2⟩ := cond_some e
      simp only [Option.some.injEq, Prod.mk.injEq] at e2
      obtain ⟨rfl, rfl⟩ := e2
      obtain ⟨h1, h2⟩ := T.fn g fn hf
      refine ⟨c, w, Step.refl r, A, ?_, ha⟩
      have hn : (fn.name == "runtime.NumGoroutine") = false := by simpa using h2
      have hb : fn.body.isNone = false := by cases hbb : fn.body <;> simp_all
      simp only [callFunc, Sem.run_bind, run_program, Result.andThen_ok, h1, hn, hb, Bool.false_eq_true, if_false, Sem.run_pure]

theorem callA_ok (T : TabOK P E) (r : HRel c h w) {f : AV} {args : List AV} {fv : Value} {X : Array Value} (hf : crel c w f fv) (ha : crels c w args X.toList) {n : AN} (e : callA E f args h = some (n, h')) :
    OpOK P c h w (do let d ← Deferred.ofValue fv X; invoke d.target d.args) n h' := by
  unfold callA at e
  split at e
  · rename_i g first cap
    simp only [crel] at hf
    obtain ⟨A, B, rfl, h1, h2⟩ := hf
    have hall : crels c w (first ++ args ++ cap) (A ++ X ++ B).toList := by
      simp only [Array.toList_append]
      exact crels_append (crels_append h1 ha) h2
    have := doEnter_ok T r hall e
    simpa [Deferred.ofValue, invoke] using this
  · rename_i l
    simp only [crel] at hf
    obtain ⟨b, h1, rfl⟩ := hf
    simp only [Option.some.injEq, Prod.mk.injEq] at e
    obtain ⟨rfl, rfl⟩ := e
    exact ⟨c, w, Step.refl r, b, X, h1, rfl, by simp [Deferred.ofValue, invoke], ha⟩
  · cases e

theorem OpOK.congr {s s' : Sem Next} {n : AN} (e : s = s') (hh : OpOK P c h w s n h') : OpOK P c h w s' n h' := e ▸ hh

theorem builtinA_ok (T : TabOK P E) (r : HRel c h w) (b : Builtin) (ts : Array TypeId) (ty : TypeId) (cs : Array Bool) {args : List AV} {X : Array Value} (ha : crels c w args X.toList) {n : AN} (e : builtinA E h b ts args = some (n, h')) :
    OpOK P c h w (builtin b ts ty cs X) n h' := by
  have one : ∀ {x : AV}, args = [x] → ∃ xv, X = #[xv] ∧ crel c w x xv := by
    rintro x rfl
    obtain ⟨v, hv, h1⟩ := crels_of_one ha
    exact ⟨v, Array.ext' (by simpa using hv), h1⟩
  have two : ∀ {x y : AV}, args = [x, y] → ∃ xv yv, X = #[xv, yv] ∧ crel c w x xv ∧ crel c w y yv := by
    rintro x y rfl
    simp only [crels] at ha
    obtain ⟨v, l, h1, h2, u, m, rfl, h3, rfl⟩ := ha
    exact ⟨v, u, Array.ext' (by simpa using h1), h2, h3⟩
  unfold builtinA at e
  split at e
  · obtain ⟨xv, rfl, hx⟩ := one rfl
    exact (doLen_ok T r ts ty hx).op e
  · obtain ⟨xv, yv, rfl, hx, hy⟩ := two rfl
    exact (doAppend_ok T r ts ty hx hy).op e
  · obtain ⟨xv, rfl, hx⟩ := one rfl
    exact (doCap_ok T r ts ty hx).op e
  · obtain ⟨xv, yv, rfl, hx, hy⟩ := two rfl
    exact (doMax_ok r ts ty hx hy).op e
  · obtain ⟨xv, yv, rfl, hx, hy⟩ := two rfl
    exact (doMin_ok r ts ty hx hy).op e
  · cases e

theorem opA_ok (T : TabOK P E) (r : HRel c h w) {nid : Nat} (hl : c.opn nid) (hg : h.bs.get nid = none) {tm : Tr AV} {ρ : Operand → Value} (hρ : ∀ x, crel c w (opnd tm x) (ρ x)) (o : Oper) {n : AN}
    (e : opA E nid tm o.op h = some (n, h')) : OpOK P c h w (execOp ρ o) n h' := by
  obtain ⟨dst, op, ty, pos, aft, grd⟩ := o
  cases op <;> simp only [opA] at e <;> (try (cases e; done))
  case move x =>
    simp only [Option.some.injEq, Prod.mk.injEq] at e
    obtain ⟨rfl, rfl⟩ := e
    exact ⟨c, w, Step.refl r, ρ x, .inl rfl, hρ x⟩
  case assign x =>
    simp only [Option.some.injEq, Prod.mk.injEq] at e
    obtain ⟨rfl, rfl⟩ := e
    exact ⟨c, w, Step.refl r, ρ x, .inl rfl, hρ x⟩
  case load t a => exact (doLoad_ok T r (hρ a)).op e
  case store t a x => exact (doStore_ok T r (hρ a) (hρ x)).op e
  case fieldAddr t x f => exact (doFieldAddr_ok T r (hρ x)).op e
  case binOp op t x y yt => exact (doBin_ok T r (hρ x) (hρ y)).op e
  case pick a b d =>
    unfold doPick at e
    have ha := hρ a
    split at e
    · rename_i hv
      simp only [Option.some.injEq, Prod.mk.injEq] at e
      obtain ⟨rfl, rfl⟩ := e
      rw [hv] at ha
      simp only [crel] at ha
      exact ⟨c, w, Step.refl r, ρ b, .inl (by simp [execOp, ha, asBool]), hρ b⟩
    · rename_i hv
      simp only [Option.some.injEq, Prod.mk.injEq] at e
      obtain ⟨rfl, rfl⟩ := e
      rw [hv] at ha
      simp only [crel] at ha
      exact ⟨c, w, Step.refl r, ρ d, .inl (by simp [execOp, ha, asBool]), hρ d⟩
    · cases e
  case alloc t => exact (doAllocT_ok T r hl hg t).op e
  case box t x => exact (doBox_ok r hl hg t (hρ x)).op e
  case build t parts => exact (doBuild_ok T r hρ t parts).op e
  case buildSlice t len parts => exact (doBuildSlice_ok T r hl hg hρ t len parts).op e
  case nilCheck x =>
    obtain ⟨rfl, rfl, a, ha⟩ := doNil_ok r (hρ x) e
    refine ⟨c, w, Step.refl r, ρ x, .inl ?_, hρ x⟩
    simp only [execOp, ha, Sem.run_pure]
  case unOp op t x => exact (doUn_ok T r op (hρ x)).op e
  case convert s d x => exact (doConv_ok T r s d (hρ x) hl hg).op e
  case makeInterface t x => exact (doIface_ok T r (hρ x)).op e
  case makeFunc fn a b => exact (doFunc_ok r hρ fn a b).op e
  case makeMap t rv =>
    cases rv with
    | some _ => cases e
    | none =>
      simp only [Option.some.injEq, Prod.mk.injEq] at e
      obtain ⟨rfl, rfl⟩ := e
      refine ⟨_, _, Step.alloc r hl hg (B := .map []) (o := .map #[] 0) ⟨rfl, #[], 0, new_get _ _, by simp [crelE]⟩, .map (some w.heap.size), .inl ?_, ?_⟩
      · simp [execOp, Instr.makeMap]
      · simp only [crel]; exact ⟨_, add_loc _ _ _ _, rfl⟩
  case mapUpdate t m k x => exact (doMapUpd_ok T r (hρ m) (hρ k) (hρ x)).op e
  case insert t m k x => exact (doMapUpd_ok T r (hρ m) (hρ k) (hρ x)).op e
  case lookup t m k ok => exact (doLookup_ok T r (hρ m) (hρ k)).op e
  case slice t x lo hi mx =>
    cases hb : (mx.isSome && hi.isNone) with
    | true => rw [hb] at e; cases e
    | false =>
      rw [hb] at e
      simp only [cond_false] at e
      refine (doSlice_ok T r (hρ x) (optA_rel hρ lo) (optA_rel hρ hi) (optA_rel hρ mx) fun hm => ?_).op e
      cases mx with
      | none => cases hm
      | some _ => cases hi with
        | none => simp at hb
        | some _ => rfl
  case field t x f => exact (doField_ok T r (hρ x)).op e
  case indexAddr t x i => exact (doIndexAddr_ok T r (hρ x) (hρ i)).op e
  case index t x i => exact (doIndex_ok T r (hρ x) (hρ i)).op e
  case extract x i => exact (doExtract_ok r (hρ x)).op e
  case typeAssert x t0 t ok => exact (doAssert_ok T r (hρ x)).op e
  case panic x =>
    unfold doPanic at e
    split at e
    · rename_i t v hv
      simp only [Option.some.injEq, Prod.mk.injEq] at e
      obtain ⟨rfl, rfl⟩ := e
      have hx := hρ x
      rw [hv] at hx
      have hx' := hx
      simp only [crel] at hx
      obtain ⟨y, hy, h2⟩ := hx
      refine ⟨c, w, Step.refl r, ρ x, ?_, hx'⟩
      simp [execOp, hy, Instr.panic]
    · cases e
  case call cl =>
    unfold doCall at e
    have hargs : crels c w (cl.args.toList.map (opnd tm)) (cl.args.map ρ).toList := by simpa using map_rel hρ cl.args.toList
    split at e
    · rename_i b hb
      refine OpOK.congr ?_ (builtinA_ok T r b cl.argTypes ty (cl.args.map fun | .const _ => true | _ => false) hargs e)
      simp [execOp, resolve, hb, invoke]
      rfl
    · rename_i f hf
      refine OpOK.congr ?_ (callA_ok T r (hρ f) hargs e)
      simp [execOp, resolve, hf]
    · cases e
  case defer cl =>
    unfold doDefer at e
    have hargs : crels c w (cl.args.toList.map (opnd tm)) (cl.args.map ρ).toList := by simpa using map_rel hρ cl.args.toList
    split at e
    · rename_i f hf
      split at e
      · rename_i g a b hv
        simp only [Option.some.injEq, Prod.mk.injEq] at e
        obtain ⟨rfl, rfl⟩ := e
        have hfv := hρ f
        rw [hv] at hfv
        simp only [crel] at hfv
        obtain ⟨A, B, hy, h2, h3⟩ := hfv
        refine ⟨c, w, Step.refl r, _, ?_, g, a, b, A, B, _, rfl, rfl, h2, h3, hargs⟩
        simp [execOp, resolve, hf, hy, Deferred.ofValue]
      · cases e
    · cases e
end
end Rfx
