/- A run from nothing with other unknowns gives a contract; simple results are turned into what they stand for. -/
import Derived.Test.YtnjpcjnkhelfoabGreatDoorRfxGen
set_option linter.unusedSectionVars false
set_option linter.unusedVariables false
set_option linter.unusedSimpArgs false
set_option linter.unnecessarySimpa false
namespace Rfx
open Go

/-- a simple result -/
def AV.simple : AV → Bool
  | .bool _ | .int _ _ | .sym _ _ => true
  | _ => false

section
variable {V1 : Val} {P : Program} {E : Env}
theorem con_of_run4 (VV : World → Val) (hV : ∀ w, @Calm (VV w) w) (T : ∀ w, @FnOK (VV w) P E) {n m f : Nat} {args : List AV} {v v1 : AV} (hg : gives (evalN E n f args ⟨0, .nil⟩) m v = true) (hv : v.simple = true)
    (c : Cx) (h : AH) (w : World) (A : Array Value) (k : Nat) (conv : ∀ (c1 c2 : Cx) (w' : World) (cv : Value), @crel (VV w) c1 w' v cv → @crel V1 c2 w' v1 cv)
    (r : @HRel V1 c h w) (hA : @crels (VV w) c.bare w args A.toList) :
    CallsIn (FR none) k P f A w (@CPost V1 c h w (.ret v1) h) := by
  cases he : evalN E n f args ⟨0, .nil⟩ with
  | none => rw [he] at hg; simp [gives] at hg
  | some p =>
    obtain ⟨res, h'⟩ := p
    rw [he] at hg
    cases res with
    | panic _ => simp [gives] at hg
    | ret x =>
      simp only [gives] at hg
      cases hd : deepA h' m x with
      | none => rw [hd] at hg; simp at hg
      | some y =>
        rw [hd] at hg
        have hy := @same_eq (VV w) _ _ hg
        subst hy
        have low := @HRel.lowOK V1 c h w r
        refine ((@evalN_ok (VV w) _ _ (T w) n) f args _ _ _ he c.bare w A (@LowOK.bare (VV w) _ _ (hV w) low) hA k).mono fun en w' hp => ?_
        obtain ⟨c', s, cv, h1, h2⟩ := hp
        have nw := @Step.newOK (VV w) _ _ _ _ _ (hV w) s
        refine ⟨c.wide w w', @NewOK.step V1 _ _ _ _ nw r, cv, h1, ?_⟩
        have hd' : ∃ mm, m = mm + 1 := by cases m with | zero => cases hd | succ mm => exact ⟨mm, rfl⟩
        obtain ⟨mm, rfl⟩ := hd'
        replace hd : deepF h' (deepL (deepA h' mm)) x = some y := hd
        have hxy : x = y := by
          cases x <;> simp only [deepF] at hd <;> first
            | (cases hd; rfl)
            | (cases hd; done)
            | (split at hd
               · split at hd
                 · cases hd; simp [AV.simple] at hv
                 · cases hd
               · cases hd)
            | (split at hd
               · cases hd; simp [AV.simple] at hv
               · cases hd)
        subst hxy
        exact conv c' _ w' cv h2
end

/-- truncated remainder, as the reference's Around has it -/
def aroundI (a m : Int) : Int := if a < 0 then (-(a + 1)).tmod m else a.tmod m
theorem aroundI_range {a m : Int} (hm : 0 < m) : 0 ≤ aroundI a m ∧ aroundI a m < m := by
  unfold aroundI
  split
  · exact ⟨Int.tmod_nonneg _ (by omega), Int.tmod_lt_of_pos _ hm⟩
  · exact ⟨Int.tmod_nonneg _ (by omega), Int.tmod_lt_of_pos _ hm⟩
def inI64 (a : Int) : Prop := -9223372036854775808 ≤ a ∧ a ≤ 9223372036854775807
theorem wrap_in {a : Int} (h : inI64 a) : IntKind.i64.wrap a = a := by
  unfold inI64 at h
  unfold IntKind.wrap
  show (if (true && decide (a % (2 ^ 64 : Int) ≥ (2 ^ 63 : Int))) = true then a % (2 ^ 64 : Int) - (2 ^ 64 : Int) else a % (2 ^ 64 : Int)) = a
  simp only [Bool.true_and, decide_eq_true_eq]
  split <;> omega
end Rfx
