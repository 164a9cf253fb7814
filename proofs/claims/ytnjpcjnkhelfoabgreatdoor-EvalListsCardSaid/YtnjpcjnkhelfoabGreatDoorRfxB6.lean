/- EvalLists returns true from every world, at every slice. -/
import Derived.Test.YtnjpcjnkhelfoabGreatDoorRfxB5
set_option linter.unusedSectionVars false
set_option linter.unusedVariables false
set_option linter.unusedSimpArgs false
set_option linter.unnecessarySimpa false
namespace Rfx.RfxEnvB
set_option maxRecDepth 20000
open Go Go.Proofs

/-- what is left behind -/
def Left (w w' : World) : Prop := (∀ b, b < w.heap.size → w'.heap[b]? = w.heap[b]?) ∧ w.heap.size ≤ w'.heap.size ∧ w'.os = w.os ∧ w'.output = w.output

theorem calls_of_con {f : Nat} {args : List AV} {A : Array Value} {W : World} (V : Val) (hV : @Calm V W) (hc : @ConOK V f args (.bool true)) (F : Nat → Prop) (hF : ∀ b, F b → b < W.heap.size)
    (hA : @crels V ⟨fun _ => none, F, fun _ => False, 0⟩ W args A.toList) : Calls Tryz.prog f A W fun e w' => e = .returned (.bool true) ∧ Left W w' := by
  letI := V
  let c0 : Cx := ⟨fun _ => none, F, fun _ => False, 0⟩
  have r0 : HRel c0 ⟨0, .nil⟩ W := LowOK.bare (c := c0) hV ⟨hF, Nat.zero_le _⟩
  refine ((hc c0 _ W A 0 r0 hA).mono ?_).calls (fun _ => by simp [Fence.room, FR])
  intro e w' hp
  obtain ⟨c', s, cv, h1, h2⟩ := hp
  simp only [crel] at h2
  subst h2
  have n := Step.newOK (c := c0) hV s
  exact ⟨h1, n.keep, n.size, n.out.1, n.out.2⟩

theorem lists_calls (W : World) (lv : Value) (a x : Int) (ha : inI64 a)
    (hl : lv = .slice none 0 0 ∨ (∃ ad cp, lv = .slice (some ad) 0 cp) ∨ ∃ S : Sl, SlOK S ∧ lv = .slice (some ⟨S.b, S.o, none⟩) S.len S.cap ∧ W.heap[S.b]? = some S.obj) :
    Calls Tryz.prog 3 #[lv, .int .i64 a, .int .i64 x] W fun e w' => e = .returned (.bool true) ∧ Left W w' := by
  rcases hl with rfl | ⟨ad, cp, rfl⟩ | ⟨S, hS, rfl, hw⟩
  · refine calls_of_con (valX (rhoI Sl.no x a) Sl.no.xs W) ⟨rfl, rfl⟩ (lists_nil x a W ha) (fun _ => False) (fun _ h => h.elim) ?_
    letI V := valX (rhoI Sl.no x a) Sl.no.xs W
    exact crels_cons (by simp only [crel]) (crels_cons (by simp only [crel]; rfl) (crels_one (by simp only [crel]; rfl)))
  · refine calls_of_con (valX (rhoI Sl.no x a) Sl.no.xs W) ⟨rfl, rfl⟩ (lists_esl x a W ha) (fun _ => False) (fun _ h => h.elim) ?_
    letI V := valX (rhoI Sl.no x a) Sl.no.xs W
    exact crels_cons (by simp only [crel]; exact ⟨ad, cp, rfl⟩) (crels_cons (by simp only [crel]; rfl) (crels_one (by simp only [crel]; rfl)))
  · refine calls_of_con (valX (rhoI S x a) S.xs W) ⟨rfl, rfl⟩ (lists_con hS x a W ha) (fun b => b = S.b) (fun b h => ?_) ?_
    · subst h; exact (Array.getElem?_eq_some_iff.1 hw).1
    · letI V := valX (rhoI S x a) S.xs W
      exact crels_cons (by simp only [crel]; exact ⟨rfl, hS.cap, rfl, hw⟩) (crels_cons (by simp only [crel]; rfl) (crels_one (by simp only [crel]; rfl)))
end Rfx.RfxEnvB
