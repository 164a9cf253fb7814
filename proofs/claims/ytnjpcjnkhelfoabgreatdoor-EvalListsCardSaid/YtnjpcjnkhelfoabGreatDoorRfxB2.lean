/- What is asked of unknown numbers; the parsed texts as contracts. -/
import Derived.Test.YtnjpcjnkhelfoabGreatDoorRfxB1a
import Derived.Test.YtnjpcjnkhelfoabGreatDoorRfxB1b
set_option linter.unusedSectionVars false
set_option linter.unusedVariables false
set_option linter.unusedSimpArgs false
set_option linter.unnecessarySimpa false
namespace Rfx.RfxEnvB
set_option maxRecDepth 20000
open Go Go.Proofs

theorem ok1 [Val] : FnOK Tryz.prog env1 := okX tkOk noSym_ok
theorem rdOk [Val] : ∀ f args v, conT rdT f args = some v → ConOK f args v := by
  intro f args v hcon
  refine conT_ok hcon (Q := ConOK) ?_
  intro x hx
  simp only [rdT, List.mem_cons, List.not_mem_nil, or_false] at hx
  rcases hx with rfl | rfl | rfl | rfl | rfl | rfl | rfl | rfl | rfl | rfl | rfl | rfl | rfl | rfl | rfl | rfl
  · exact con_of_run ok1 rdC0 rdG0
  · exact con_of_run ok1 rdC1 rdG1
  · exact con_of_run ok1 rdC2 rdG2
  · exact con_of_run ok1 rdC3 rdG3
  · exact con_of_run ok1 rdC4 rdG4
  · exact con_of_run ok1 rdC5 rdG5
  · exact con_of_run ok1 rdC6 rdG6
  · exact con_of_run ok1 rdC7 rdG7
  · exact con_of_run ok1 rdC8 rdG8
  · exact con_of_run ok1 rdC9 rdG9
  · exact con_of_run ok1 rdC10 rdG10
  · exact con_of_run ok1 rdC11 rdG11
  · exact con_of_run ok1 rdC12 rdG12
  · exact con_of_run ok1 rdC13 rdG13
  · exact con_of_run ok1 rdC14 rdG14
  · exact con_of_run ok1 rdC15 rdG15
theorem ok2 [Val] : FnOK Tryz.prog env2 := okX (fun f a v h => by
  have h' : both (conT rdT f a) (conT tkT f a) = some v := h
  unfold both at h'
  split at h'
  · rename_i u hu; cases h'; exact rdOk f a _ hu
  · exact tkOk f a v h') noSym_ok
theorem psOk [Val] : ∀ f args v, conT psT f args = some v → ConOK f args v := by
  intro f args v hcon
  refine conT_ok hcon (Q := ConOK) ?_
  intro x hx
  simp only [psT, List.mem_cons, List.not_mem_nil, or_false] at hx
  rcases hx with rfl | rfl | rfl | rfl | rfl | rfl | rfl | rfl | rfl | rfl | rfl | rfl | rfl | rfl | rfl | rfl
  · exact con_of_run ok2 psC0 psG0
  · exact con_of_run ok2 psC1 psG1
  · exact con_of_run ok2 psC2 psG2
  · exact con_of_run ok2 psC3 psG3
  · exact con_of_run ok2 psC4 psG4
  · exact con_of_run ok2 psC5 psG5
  · exact con_of_run ok2 psC6 psG6
  · exact con_of_run ok2 psC7 psG7
  · exact con_of_run ok2 psC8 psG8
  · exact con_of_run ok2 psC9 psG9
  · exact con_of_run ok2 psC10 psG10
  · exact con_of_run ok2 psC11 psG11
  · exact con_of_run ok2 psC12 psG12
  · exact con_of_run ok2 psC13 psG13
  · exact con_of_run ok2 psC14 psG14
  · exact con_of_run ok2 psC15 psG15
theorem signI_self (a : Int) : signI a a = 1 := by unfold signI; rw [if_neg (by omega), if_pos rfl]
theorem sgSame_ok [Val] : ∀ op t x y v, symT sgSame op t x y = some v → ∀ (c : Cx) (w : World) (xv yv : Value), crel c w x xv → crel c w y yv →
      (∀ ox oy, (eqGuard op t ox oy xv yv).run Tryz.prog w = .ok () w) ∧ ∃ cv, (binOp op t xv yv).run Tryz.prog w = .ok cv w ∧ crel c w v cv := by
  intro op t x y v e
  refine symI_ok (sg := sgSame) (fun x y s hs => ?_) e
  unfold sgSame at hs
  split at hs
  · rename_i i _ j
    obtain ⟨h1, h2⟩ := cond_some hs
    have := beq_t h1
    subst this
    cases h2
    exact signI_self _
  · cases hs
theorem okQ [Val] : FnOK Tryz.prog envQ := okX psOk sgSame_ok
theorem lives_ok [Val] : ConOK 8 [] (.bool true) := con_of_run okQ rfl lives_gives
end Rfx.RfxEnvB
