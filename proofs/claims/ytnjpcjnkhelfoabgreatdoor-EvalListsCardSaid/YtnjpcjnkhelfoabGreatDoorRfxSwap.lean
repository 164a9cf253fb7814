/- Drawn regions, first part: what the operations look at; sets of tries commute. -/
import Derived.Test.YtnjpcjnkhelfoabGreatDoorRfxExec2
set_option linter.unusedSectionVars false
set_option linter.unusedVariables false
set_option linter.unusedSimpArgs false
set_option linter.unnecessarySimpa false
namespace Rfx
open Go
variable [Val]

/-! ### sets commute -/
namespace Tr
variable {α : Type}
theorem beq_ne' {a b : Nat} (h : a ≠ b) : Nat.beq a b = false := by
  cases hb : Nat.beq a b with
  | false => rfl
  | true => exact absurd (Nat.eq_of_beq_eq_true hb) h

theorem setF_comm (v v' : Option α) : ∀ (d d' : Nat) (t : Tr α) (k k' : Nat), k < d → k' < d' → k ≠ k' → setF v d (setF v' d' t k') k = setF v' d' (setF v d t k) k' := by
  intro d
  induction d with
  | zero => intro d' t k k' h; omega
  | succ d ih =>
    intro d' t k k' h h' hne
    cases d' with
    | zero => omega
    | succ d' =>
      by_cases h0 : k = 0
      · subst h0
        have h1 : Nat.beq k' 0 = false := beq_ne' (fun e => hne e.symm)
        cases t with
        | nil =>
          simp only [setF_nil, Nat.beq_refl, cond_true, h1, cond_false, setF_node]
          cases hb : Nat.beq (k' % 2) 1 <;> simp [setF_node]
        | node w l r =>
          simp only [Nat.beq_refl, cond_true, h1, cond_false, setF_node]
          cases hb : Nat.beq (k' % 2) 1 <;> simp [setF_node]
      · have e0 := beq_ne' h0
        by_cases h0' : k' = 0
        · subst h0'
          cases t with
          | nil =>
            simp only [setF_nil, Nat.beq_refl, cond_true, e0, cond_false, setF_node]
            cases hb : Nat.beq (k % 2) 1 <;> simp [setF_node]
          | node w l r =>
            simp only [Nat.beq_refl, cond_true, e0, cond_false, setF_node]
            cases hb : Nat.beq (k % 2) 1 <;> simp [setF_node]
        · have e0' := beq_ne' h0'
          have hk : k % 2 = 1 ∨ k % 2 = 0 := by omega
          have hk' : k' % 2 = 1 ∨ k' % 2 = 0 := by omega
          have b0 : Nat.beq 0 1 = false := rfl
          cases t with
          | nil =>
            rcases hk with e | e <;> rcases hk' with e' | e' <;>
              simp only [setF_nil, setF_node, e0, e0', e, e', b0, Nat.beq_refl, cond_true, cond_false]
            · rw [ih _ _ _ _ (by omega) (by omega) (by omega)]
            · rw [ih _ _ _ _ (by omega) (by omega) (by omega)]
          | node w l r =>
            rcases hk with e | e <;> rcases hk' with e' | e' <;>
              simp only [setF_node, e0, e0', e, e', b0, Nat.beq_refl, cond_true, cond_false]
            · rw [ih _ _ _ _ (by omega) (by omega) (by omega)]
            · rw [ih _ _ _ _ (by omega) (by omega) (by omega)]

theorem set_comm (t : Tr α) {k k' : Nat} (v v' : α) (h : k ≠ k') : (t.set k' v').set k v = (t.set k v).set k' v' :=
  setF_comm _ _ _ _ _ _ _ (Nat.lt_succ_self _) (Nat.lt_succ_self _) h

theorem setF_setF (v v' : Option α) : ∀ (d : Nat) (t : Tr α) (k : Nat), k < d → setF v d (setF v' d t k) k = setF v d t k := by
  intro d
  induction d with
  | zero => intro t k h; omega
  | succ d ih =>
    intro t k h
    by_cases h0 : k = 0
    · subst h0
      cases t <;> simp [setF_nil, setF_node]
    · have e0 := beq_ne' h0
      have hk : k % 2 = 1 ∨ k % 2 = 0 := by omega
      have b0 : Nat.beq 0 1 = false := rfl
      cases t <;> rcases hk with e | e <;> simp only [setF_nil, setF_node, e0, e, b0, Nat.beq_refl, cond_true, cond_false] <;> rw [ih _ _ (by omega)]

theorem set_set (t : Tr α) (k : Nat) (v v' : α) : (t.set k v').set k v = t.set k v := setF_setF _ _ _ _ _ (Nat.lt_succ_self _)
end Tr

/-! ### what an operation looks at -/
section
variable {E : Env}

theorem partsA_congr {tm tm' : Tr AV} (pl : Nat → Option (Nat × Nat)) : ∀ (ps : List (Nat × Operand)), (∀ x ∈ ps.map (·.2), opnd tm x = opnd tm' x) → partsA pl tm ps = partsA pl tm' ps
  | [], _ => rfl
  | (j, x) :: ps, h => by
    have h1 := h x (by simp)
    have h2 := partsA_congr pl ps fun y hy => h y (by simp only [List.map_cons, List.mem_cons]; exact .inr hy)
    simp only [partsA, h1, h2]

theorem opA_congr {tm tm' : Tr AV} (nid : Nat) (o : Op) (h : AH) (hx : ∀ x ∈ o.operands.toList, opnd tm x = opnd tm' x) : opA E nid tm o h = opA E nid tm' o h := by
  cases o with
  | build t ps =>
    have := fun pl => partsA_congr (tm := tm) (tm' := tm') pl ps.toList (by simpa [Op.operands] using hx)
    simp only [opA, doBuild, this]
  | buildSlice t len ps =>
    have := fun pl => partsA_congr (tm := tm) (tm' := tm') pl ps.toList (by simpa [Op.operands] using hx)
    simp only [opA, doBuildSlice, this]
  | makeFunc f a b =>
    have h1 : a.toList.map (opnd tm) = a.toList.map (opnd tm') := List.map_congr_left fun x hx' => hx x (by simp only [Op.operands, Array.toList_append, List.mem_append]; exact .inl hx')
    have h2 : b.toList.map (opnd tm) = b.toList.map (opnd tm') := List.map_congr_left fun x hx' => hx x (by simp only [Op.operands, Array.toList_append, List.mem_append]; exact .inr hx')
    simp only [opA, doFunc, h1, h2]
  | slice t x lo hi mx =>
    have h1 : opnd tm x = opnd tm' x := hx x (by simp [Op.operands])
    have h2 : optA tm lo = optA tm' lo := by
      cases lo with
      | none => rfl
      | some y => simp only [optA]; rw [hx y (by simp [Op.operands])]
    have h3 : optA tm hi = optA tm' hi := by
      cases hi with
      | none => rfl
      | some y => simp only [optA]; rw [hx y (by simp [Op.operands])]
    have h4 : optA tm mx = optA tm' mx := by
      cases mx with
      | none => rfl
      | some y => simp only [optA]; rw [hx y (by simp [Op.operands])]
    simp only [opA, h1, h2, h3, h4]
  | call c =>
    have h1 : c.args.toList.map (opnd tm) = c.args.toList.map (opnd tm') := List.map_congr_left fun x hx' => hx x (by
      simp only [Op.operands, Call.operands]
      cases c.callee <;> simp [hx'] )
    simp only [opA, doCall, h1]
    cases hc : c.callee with
    | value f =>
      have : opnd tm f = opnd tm' f := hx f (by simp [Op.operands, Call.operands, hc])
      simp only [this]
    | _ => rfl
  | defer c =>
    have h1 : c.args.toList.map (opnd tm) = c.args.toList.map (opnd tm') := List.map_congr_left fun x hx' => hx x (by
      simp only [Op.operands, Call.operands]
      cases c.callee <;> simp [hx'] )
    simp only [opA, doDefer, h1]
    cases hc : c.callee with
    | value f =>
      have : opnd tm f = opnd tm' f := hx f (by simp [Op.operands, Call.operands, hc])
      simp only [this]
    | _ => rfl
  | makeMap t r => cases r <;> rfl
  | move x => simp only [opA]; rw [hx x (by simp [Op.operands])]
  | assign x => simp only [opA]; rw [hx x (by simp [Op.operands])]
  | load t x => simp only [opA]; rw [hx x (by simp [Op.operands])]
  | store t x y => simp only [opA]; rw [hx x (by simp [Op.operands]), hx y (by simp [Op.operands])]
  | fieldAddr t x f => simp only [opA]; rw [hx x (by simp [Op.operands])]
  | binOp op t x y u => simp only [opA]; rw [hx x (by simp [Op.operands]), hx y (by simp [Op.operands])]
  | pick x y z => simp only [opA]; rw [hx x (by simp [Op.operands]), hx y (by simp [Op.operands]), hx z (by simp [Op.operands])]
  | box t x => simp only [opA]; rw [hx x (by simp [Op.operands])]
  | nilCheck x => simp only [opA]; rw [hx x (by simp [Op.operands])]
  | unOp op t x => simp only [opA]; rw [hx x (by simp [Op.operands])]
  | convert s d x => simp only [opA]; rw [hx x (by simp [Op.operands])]
  | makeInterface t x => simp only [opA]; rw [hx x (by simp [Op.operands])]
  | mapUpdate t x y z => simp only [opA]; rw [hx x (by simp [Op.operands]), hx y (by simp [Op.operands]), hx z (by simp [Op.operands])]
  | insert t x y z => simp only [opA]; rw [hx x (by simp [Op.operands]), hx y (by simp [Op.operands]), hx z (by simp [Op.operands])]
  | lookup t x y k => simp only [opA]; rw [hx x (by simp [Op.operands]), hx y (by simp [Op.operands])]
  | field t x f => simp only [opA]; rw [hx x (by simp [Op.operands])]
  | indexAddr t x y => simp only [opA]; rw [hx x (by simp [Op.operands]), hx y (by simp [Op.operands])]
  | index t x y => simp only [opA]; rw [hx x (by simp [Op.operands]), hx y (by simp [Op.operands])]
  | extract x i => simp only [opA]; rw [hx x (by simp [Op.operands])]
  | typeAssert x a t ok => simp only [opA]; rw [hx x (by simp [Op.operands])]
  | panic x => simp only [opA]; rw [hx x (by simp [Op.operands])]
  | _ => rfl
end
end Rfx
