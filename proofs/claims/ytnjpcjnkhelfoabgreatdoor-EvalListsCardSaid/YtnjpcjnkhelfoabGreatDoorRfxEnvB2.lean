/- The tables of seat ab say the truth. -/
import Derived.Test.YtnjpcjnkhelfoabGreatDoorRfxEnvB
set_option linter.unusedSectionVars false
set_option linter.unusedVariables false
set_option linter.unusedSimpArgs false
set_option linter.unnecessarySimpa false
namespace Rfx.RfxEnvB
set_option maxRecDepth 20000
open Go Go.Proofs
variable [Val]

theorem entryI : IsEntry Tryz.prog 128 Extern.BytealgIndexByte.indexByte := ⟨Tryz.f128, by kernel_rfl, by kernel_rfl, by kernel_rfl, by kernel_rfl, by kernel_rfl⟩
theorem entryC : IsEntry Tryz.prog 135 Extern.BytealgCompare.compare := ⟨Tryz.f135, by kernel_rfl, by kernel_rfl, by kernel_rfl, by kernel_rfl, by kernel_rfl⟩

theorem row_of {t : Nat} (hg : good t = true) : TyOK Tryz.prog t (tiOf Tryz.prog.types t (ks t)) := by
  have ha := ty_all
  unfold tyB at ha
  rw [List.all_eq_true] at ha
  have hlt : t < 250 := by
    unfold good at hg
    rw [Bool.and_eq_true] at hg
    obtain ⟨h0, _⟩ := hg
    exact blt_t h0
  have hk := ha t (List.mem_range.2 hlt)
  rw [hg, Bool.not_true, Bool.false_or] at hk
  exact ty_of hk

theorem ok : FnOK Tryz.prog env where
  tab := {
    ty := fun t i h => by
      have h' : (bif good t then some (tiOf Tryz.prog.types t (ks t)) else none) = some i := h
      cases hg : good t with
      | false => rw [hg] at h'; simp at h'
      | true =>
        rw [hg, cond_true] at h'
        have hT := Option.some.inj h'
        rw [← hT]
        exact row_of hg
    fn := fun f fn h => by
      refine ⟨h, ?_⟩
      have ha := name_all
      unfold nameB at ha
      rw [List.all_eq_true] at ha
      have := ha fn (by simpa using Array.mem_of_getElem? h)
      simpa using this
    ext := fun f args v h c w A hA => prims_ok entryI entryC h c w A hA
    sym := fun op t x y v h => by cases h
    symu := fun _ _ _ h => by cases h
    xlen := fun _ _ h => by cases h
    xat := fun _ _ _ _ h => by cases h
    mixed := (Bool.eq_false_or_eq_true _).symm }
  con := fun f args v h => by cases h
  draws := fun f fn cd h hb => by
    have ha := draw_all
    unfold drawB at ha
    rw [List.all_eq_true] at ha
    have := ha f (List.mem_range.2 (Array.getElem?_eq_some_iff.1 h).1)
    have h' : Tryz.prog.funcs[f]? = some fn := h
    rw [h'] at this
    dsimp only at this
    rw [hb] at this
    exact this
end Rfx.RfxEnvB
