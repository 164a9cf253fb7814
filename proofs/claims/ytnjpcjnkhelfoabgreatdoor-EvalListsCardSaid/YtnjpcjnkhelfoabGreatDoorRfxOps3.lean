/- One operation, third part: numbers, texts, comparisons, places, slices. -/
import Derived.Test.YtnjpcjnkhelfoabGreatDoorRfxOps2
set_option linter.unusedSectionVars false
set_option linter.unusedVariables false
set_option linter.unusedSimpArgs false
set_option linter.unnecessarySimpa false
namespace Rfx
open Go
variable [Val]

section
variable {P : Program} {E : Env} {c : Cx} {h h' : AH} {w : World}

theorem doPick_ok (r : HRel c h w) {a b d : AV} {av bv dv : Value} (ha : crel c w a av) (hb : crel c w b bv) (hd : crel c w d dv) :
    VON P c h w (do if ← asBool av then pure bv else pure dv) (doPick h a b d) := by
  unfold doPick
  split
  · simp only [crel] at ha; subst ha
    exact VON.val r (by simp [asBool]) hb
  · simp only [crel] at ha; subst ha
    exact VON.val r (by simp [asBool]) hd
  · exact VON.none

theorem doUn_ok (T : TabOK P E) (r : HRel c h w) (op : UnOp) {x : AV} {xv : Value} (hx : crel c w x xv) : VON P c h w (Op.unary op xv) (doUn E h op x) := by
  unfold doUn
  split
  · simp only [crel] at hx; subst hx
    exact VON.val r (cv := .int _ _) rfl (by simp only [crel])
  · simp only [crel] at hx; subst hx
    exact VON.val r (cv := .bool _) rfl (by simp only [crel])
  · cases e : E.symu op x with
    | none => exact VON.none
    | some v =>
      obtain ⟨cv, h1, h2⟩ := T.symu op x v e c w xv hx
      exact VON.val r h1 h2

theorem natOf_int {v : AV} {n : Nat} (e : natOf v = some n) : ∃ k, v = .int k (n : Int) := by
  unfold natOf at e
  split at e
  · cases e; exact ⟨_, rfl⟩
  · cases e

/-! comparisons -/
theorem eqBin_ok {op : BinOp} {b : Bool} {v : AV} (e : eqBin op b = some v) : (op = .eql ∧ v = .bool b) ∨ (op = .neq ∧ v = .bool (!b)) := by
  unfold eqBin at e
  split at e <;> simp_all

theorem nat_beq (a b : UInt8) : Nat.beq a.toNat b.toNat = (a == b) := by
  rw [Bool.eq_iff_iff]; simp [UInt8.toNat_inj]
theorem map_toNat_inj : ∀ {x y : List UInt8}, x.map (·.toNat) = y.map (·.toNat) ↔ x = y
  | [], [] => by simp
  | [], _ :: _ => by simp
  | _ :: _, [] => by simp
  | a :: x, b :: y => by
    simp only [List.map_cons, List.cons.injEq, map_toNat_inj]
    constructor
    · rintro ⟨h1, h2⟩; exact ⟨UInt8.toNat_inj.1 h1, h2⟩
    · rintro ⟨rfl, rfl⟩; exact ⟨rfl, rfl⟩
theorem strEq (x y : List UInt8) : (x == y) = (x.map (·.toNat) == y.map (·.toNat)) := by
  rw [Bool.eq_iff_iff]; simp [map_toNat_inj]
theorem nat_blt (a b : Nat) : Nat.blt a b = decide (a < b) := by
  rw [Bool.eq_iff_iff]; simp
theorem strLt_ok : ∀ (x y : List UInt8), Op.bytesLess x y = strLt (x.map (·.toNat)) (y.map (·.toNat))
  | [], [] => rfl
  | [], _ :: _ => rfl
  | _ :: _, [] => rfl
  | a :: x, b :: y => by
    simp only [Op.bytesLess, List.map_cons, strLt, strLt_ok x y, nat_beq, nat_blt]
    congr 1

theorem strBin_ok {op : BinOp} {a b : List Nat} {v : AV} {x y : ByteArray} (e : strBin op a b = some v) (hx : x.data.toList.map (·.toNat) = a) (hy : y.data.toList.map (·.toNat) = b) :
    ∃ cv, (Op.stringOp op x y).run P w = .ok cv w ∧ crel c w v cv := by
  subst hx; subst hy
  have e1 : (x.toList == y.toList) = (x.data.toList.map (·.toNat) == y.data.toList.map (·.toNat)) := by rw [ByteArray.toList_eq, ByteArray.toList_eq, strEq]
  have e2 : Op.bytesLess x.toList y.toList = strLt (x.data.toList.map (·.toNat)) (y.data.toList.map (·.toNat)) := by rw [ByteArray.toList_eq, ByteArray.toList_eq, strLt_ok]
  unfold strBin at e
  split at e
  · obtain ⟨k1, k2⟩ := cond_some e
    have k1 := ble_t k1
    simp only [List.length_map, Array.length_toList] at k1
    cases k2
    refine ⟨.string (x ++ y), ?_, ?_⟩
    · simp only [Op.stringOp]
      rw [if_neg]
      · simp
      · have h1 : x.size = x.data.size := rfl
        have h2 : y.size = y.data.size := rfl
        have : IntKind.i64.max = 9223372036854775807 := by decide
        rw [this]; omega
    · simp only [crel]
      exact ⟨x ++ y, rfl, by simp⟩
  all_goals first
    | (cases e; done)
    | (simp only [Option.some.injEq] at e
       subst e
       refine ⟨_, by simp only [Op.stringOp, Sem.run_pure]; rfl, ?_⟩
       simp only [crel, e1, e2])

theorem intBin_ok {t : Nat} {op : BinOp} {k : IntKind} {a b : Int} {v : AV} (e : intBin op k a b = some v) (hs : isShift op = false) :
    ∃ cv, (binOp op t (.int k a) (.int k b)).run P w = .ok cv w ∧ crel c w v cv := by
  unfold intBin at e
  cases op <;> simp only [isShift] at hs <;> (try (cases hs; done)) <;> simp only at e <;> first
    | (cases e; done)
    | (simp only [Option.some.injEq] at e
       subst e
       refine ⟨_, by simp only [binOp, ne_eq, not_true_eq_false, if_false, Op.intArith, Op.intCmp, Op.intBits, Sem.run_pure]; rfl, ?_⟩
       simp [crel])
    | (cases hb : (b == 0) with
       | true => rw [hb] at e; cases e
       | false =>
         rw [hb] at e
         simp only [cond_false, Option.some.injEq] at e
         subst e
         have hb' : b ≠ 0 := by simpa using hb
         refine ⟨_, by simp only [binOp, ne_eq, not_true_eq_false, if_false, Op.intDiv, hb', Sem.run_pure]; rfl, ?_⟩
         simp [crel])

theorem shiftBin_ok {t : Nat} {op : BinOp} {k k' : IntKind} {a b : Int} {v : AV} (e : shiftBin op k a b = some v) :
    ∃ cv, (binOp op t (.int k a) (.int k' b)).run P w = .ok cv w ∧ crel c w v cv := by
  unfold shiftBin at e
  split at e <;> first
    | (cases e; done)
    | (cases hb : decide (b < 0) with
       | true => rw [hb] at e; cases e
       | false =>
         rw [hb] at e
         simp only [cond_false, Option.some.injEq] at e
         subst e
         have hb' : ¬ b < 0 := by simpa using hb
         refine ⟨_, by simp only [binOp, Op.shift, hb', if_false, Sem.run_pure]; rfl, ?_⟩
         simp [crel])
end
end Rfx
