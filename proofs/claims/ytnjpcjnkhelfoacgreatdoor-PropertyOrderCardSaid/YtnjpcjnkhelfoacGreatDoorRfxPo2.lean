/- Fails and Same. -/
import Derived.Test.YtnjpcjnkhelfoacGreatDoorRfxPo1
set_option linter.unusedSectionVars false
set_option linter.unusedVariables false
set_option linter.unusedSimpArgs false
set_option linter.unnecessarySimpa false
namespace Rfx.RfxEnvC
set_option maxRecDepth 20000
open Go Go.Proofs

def sgF (s1 s2 : Nat) : AV → AV → Option Nat
  | .sym _ 0, .int _ n => bif n == 1 then some s1 else bif n == 2 then some s2 else none
  | _, _ => none
def failsS (s1 s2 : Nat) : Bool := Nat.beq s1 1 || Nat.beq s2 1
noncomputable def failsAll : Bool := (List.range 3).all fun s1 => (List.range 3).all fun s2 =>
  gives (evalN (envX noCon (symT (sgF s1 s2))) 1000 4 [outS 0] ⟨0, .nil⟩) 3 (.bool (failsS s1 s2))
theorem fails_all : failsAll = true := by kernel_rfl
def failsI (k : Int) : Bool := decide (k = 1) || decide (k = 2)
theorem failsS_eq (k : Int) : failsS (signI k 1) (signI k 2) = failsI k := by
  have hb : ∀ a b : Int, Nat.beq (signI a b) 1 = decide (a = b) := by
    intro a b
    unfold signI
    by_cases h1 : a < b
    · rw [if_pos h1, decide_eq_false (by omega)]; rfl
    · rw [if_neg h1]
      by_cases h2 : a = b
      · rw [if_pos h2, decide_eq_true h2]; rfl
      · rw [if_neg h2, decide_eq_false h2]; rfl
  unfold failsS failsI
  rw [hb, hb]

theorem fails_ok (k a e : Int) : Gives1 4 k a e (.bool (failsI k)) := by
  intro V c h w n r
  have h4 := fails_all
  unfold failsAll at h4
  simp only [List.all_eq_true, List.mem_range] at h4
  have hg := h4 (signI k 1) (signI_lt _ _) (signI k 2) (signI_lt _ _)
  rw [failsS_eq] at hg
  refine con_of_run2 (V1 := V) (rho6 k a e 0 0 0) (fun u => @okX (val6 k a e 0 0 0 u) _ _ (@noCon_ok (val6 k a e 0 0 0 u)) ?_) hg rfl c h w _ n r (@crels_one (val6 k a e 0 0 0 w) _ _ _ _ (out0_rel k a e 0 0 0 w c.bare w))
  intro op t x y v he
  refine @symI_ok (val6 k a e 0 0 0 u) _ (sgF (signI k 1) (signI k 2)) (fun x y s hs => ?_) _ _ _ _ _ he
  unfold sgF at hs
  split at hs
  · rename_i kk q
    cases h1 : (q == 1) with
    | true =>
      rw [h1, cond_true] at hs
      simp only [beq_iff_eq] at h1
      subst h1; cases hs; rfl
    | false =>
      rw [h1, cond_false] at hs
      cases h2 : (q == 2) with
      | true =>
        rw [h2, cond_true] at hs
        simp only [beq_iff_eq] at h2
        subst h2; cases hs; rfl
      | false => rw [h2] at hs; cases hs
  · cases hs

/-! ### Same -/
def symQ (q : Bool) : BinOp → Nat → AV → AV → Option AV
  | op, t, .agg [.sym .i64 0, .sym .i64 1, .sym .i64 2], .agg [.sym .i64 3, .sym .i64 4, .sym .i64 5] => bif Nat.beq t 26 then eqBin op q else none
  | _, _, _, _ => none
noncomputable def sameAll : Bool := [true, false].all fun f => [true, false].all fun q =>
  gives (evalN (envX (conT [(4, [outS 0], .bool f)]) (symQ q)) 1000 7 [outS 0, outS 3] ⟨0, .nil⟩) 3 (.bool (f && q))
theorem same_all : sameAll = true := by kernel_rfl
def eqI (k a e k' a' e' : Int) : Bool := decide (k = k') && (decide (a = a') && decide (e = e'))

theorem flat26 [Val] : FlatOK Tryz.prog 26 [.i .i64, .i .i64, .i .i64] := by
  have hg : good 26 = true := by kernel_rfl
  exact (row_of hg).flat rfl

theorem same_ok (k a e k' a' e' : Int) : Gives2 7 k a e k' a' e' (.bool (failsI k && eqI k a e k' a' e')) := by
  intro V c h w n r
  have h4 := same_all
  unfold sameAll at h4
  simp only [List.all_eq_true] at h4
  have hm : ∀ b : Bool, b ∈ [true, false] := fun b => by cases b <;> simp
  have hg := h4 (failsI k) (hm _) (eqI k a e k' a' e') (hm _)
  refine con_of_run2 (V1 := V) (rho6 k a e k' a' e') (fun u => @okX (val6 k a e k' a' e' u) _ _ ?_ ?_) hg rfl c h w _ n r
    (@crels_cons (val6 k a e k' a' e' w) _ _ _ _ _ _ (out0_rel k a e k' a' e' w _ _) (@crels_one (val6 k a e k' a' e' w) _ _ _ _ (out3_rel k a e k' a' e' w _ _)))
  · intro f' args v hcon
    refine conT_ok hcon (Q := fun f args v => ∀ c h w (A : Array Value) n, @HRel (val6 k a e k' a' e' u) c h w → @crels (val6 k a e k' a' e' u) c w args A.toList → CallsIn (FR none) n Tryz.prog f A w (@CPost (val6 k a e k' a' e' u) c h w (.ret v) h)) ?_
    intro x hx
    simp only [List.mem_cons, List.not_mem_nil, or_false] at hx
    subst hx
    intro c h w A n r hA
    obtain ⟨x, hu, hv⟩ := @crels_of_one (val6 k a e k' a' e' u) _ _ _ _ hA
    have hu2 : x = outV k a e := @out_inv (val6 k a e k' a' e' u) _ _ _ _ _ _ _ _ _ hv rfl rfl rfl
    have : A = #[outV k a e] := Array.ext' (by rw [hu, hu2])
    subst this
    exact fails_ok k a e _ c h w n r
  · intro op t x y v he
    unfold symQ at he
    split at he
    · obtain ⟨h1, h2⟩ := cond_some he
      have := beq_t h1
      subst this
      refine @symAgg_ok (val6 k a e k' a' e' u) Tryz.prog [.i .i64, .i .i64, .i .i64] 26 (@flat26 (val6 k a e k' a' e' u)) _ _ _ (eqI k a e k' a' e') _ rfl rfl ?_ h2
      simp only [List.map, denK, AV.beqs, AV.beq, decide_true, Bool.true_and, Bool.and_true, eqI]
      rfl
    · cases he
end Rfx.RfxEnvC
