/- One operation, fourth part: comparisons of all kinds, conversions, places, parts, slices, texts. -/
import Derived.Test.YtnjpcjnkhelfoabGreatDoorRfxOps3
set_option linter.unusedSectionVars false
set_option linter.unusedVariables false
set_option linter.unusedSimpArgs false
set_option linter.unnecessarySimpa false
namespace Rfx
open Go
variable [Val]

section
variable {P : Program} {E : Env} {c : Cx} {h h' : AH} {w : World}

theorem eql_run {t : Nat} {op : BinOp} {x y : Value} {b : Bool} {v : AV} (e : eqBin op b = some v) (hq : (Op.equal t x y).run P w = .ok b w)
    (he : binOp .eql t x y = (do pure (.bool (← Op.equal t x y)))) (hn : binOp .neq t x y = (do pure (.bool (!(← Op.equal t x y))))) :
    ∃ cv, (binOp op t x y).run P w = .ok cv w ∧ crel c w v cv := by
  rcases eqBin_ok e with ⟨rfl, rfl⟩ | ⟨rfl, rfl⟩
  · exact ⟨.bool b, by rw [he]; simp [hq], by simp [crel]⟩
  · exact ⟨.bool (!b), by rw [hn]; simp [hq], by simp [crel]⟩

section
variable {t : Nat} (d : Nat)
theorem eqIn_bool (hu : P.underlying t = some .bool) (a b : Bool) : (Op.equalIn (d + 1) t (.bool a) (.bool b)).run P w = .ok (a == b) w := by
  rw [Op.equalIn]; simp only [Sem.run_bind, run_und hu, Result.andThen_ok, Sem.run_pure]
theorem eqIn_nilif {m : Array (String × TypeId)} (hu : P.underlying t = some (.interface m)) (u : TypeId) (x : Value) : (Op.equalIn (d + 1) t .nilIface (.iface u x)).run P w = .ok false w := by
  rw [Op.equalIn]; simp only [Sem.run_bind, run_und hu, Result.andThen_ok, Sem.run_pure]
theorem eqIn_ifnil {m : Array (String × TypeId)} (hu : P.underlying t = some (.interface m)) (u : TypeId) (x : Value) : (Op.equalIn (d + 1) t (.iface u x) .nilIface).run P w = .ok false w := by
  rw [Op.equalIn]; simp only [Sem.run_bind, run_und hu, Result.andThen_ok, Sem.run_pure]
theorem eqIn_nilnil {m : Array (String × TypeId)} (hu : P.underlying t = some (.interface m)) : (Op.equalIn (d + 1) t .nilIface .nilIface).run P w = .ok true w := by
  rw [Op.equalIn]; simp only [Sem.run_bind, run_und hu, Result.andThen_ok, Sem.run_pure]
theorem eqIn_pnn {e : TypeId} (hu : P.underlying t = some (.pointer e)) : (Op.equalIn (d + 1) t (.pointer none) (.pointer none)).run P w = .ok true w := by
  rw [Op.equalIn]; simp only [Sem.run_bind, run_und hu, Result.andThen_ok, Sem.run_pure]; rfl
theorem eqIn_pns {e : TypeId} (hu : P.underlying t = some (.pointer e)) (a : Addr) : (Op.equalIn (d + 1) t (.pointer none) (.pointer (some a))).run P w = .ok false w := by
  rw [Op.equalIn]; simp only [Sem.run_bind, run_und hu, Result.andThen_ok, Sem.run_pure]; rfl
theorem eqIn_psn {e : TypeId} (hu : P.underlying t = some (.pointer e)) (a : Addr) : (Op.equalIn (d + 1) t (.pointer (some a)) (.pointer none)).run P w = .ok false w := by
  rw [Op.equalIn]; simp only [Sem.run_bind, run_und hu, Result.andThen_ok, Sem.run_pure]
end

theorem binop_ok (T : TabOK P E) {op : BinOp} {t : Nat} {x y : AV} {v : AV} {xv yv : Value} (e : binop E op t x y = some v) (hx : crel c w x xv) (hy : crel c w y yv) (ox oy : Operand) :
    ∃ cv, (do eqGuard op t ox oy xv yv; binOp op t xv yv : Sem Value).run P w = .ok cv w ∧ crel c w v cv := by
  have guard : ∀ {s : Sem Value} {cv : Value}, (eqGuard op t ox oy xv yv).run P w = .ok () w → s.run P w = .ok cv w → (do eqGuard op t ox oy xv yv; s : Sem Value).run P w = .ok cv w := by
    intro s cv h1 h2; simp [h1, h2]
  have viaSym : E.sym op t x y = some v → ∃ cv, (do eqGuard op t ox oy xv yv; binOp op t xv yv : Sem Value).run P w = .ok cv w ∧ crel c w v cv := by
    intro hs
    obtain ⟨k1, cv, k2, k3⟩ := T.sym op t x y v hs c w xv yv hx hy
    exact ⟨cv, guard (k1 ox oy) k2, k3⟩
  unfold binop at e
  split at e
  · -- int
    simp only [crel] at hx hy; subst hx; subst hy
    cases hs : isShift op with
    | true =>
      rw [hs] at e
      simp only [cond_true] at e
      obtain ⟨cv, h1, h2⟩ := shiftBin_ok (P := P) (c := c) (w := w) (t := t) e
      exact ⟨cv, guard (by cases op <;> simp_all [isShift, eqGuard]) h1, h2⟩
    | false =>
      rw [hs] at e
      simp only [cond_false] at e
      obtain ⟨e1, e2⟩ := cond_some e
      have hk := of_decide_eq_true e1
      subst hk
      obtain ⟨cv, h1, h2⟩ := intBin_ok (P := P) (c := c) (w := w) (t := t) e2 hs
      exact ⟨cv, guard (by cases op <;> simp [eqGuard]) h1, h2⟩
  · -- str
    simp only [crel] at hx hy
    obtain ⟨x1, rfl, hx⟩ := hx
    obtain ⟨y1, rfl, hy⟩ := hy
    obtain ⟨cv, h1, h2⟩ := strBin_ok (P := P) (c := c) (w := w) e hx hy
    refine ⟨cv, guard (by cases op <;> simp [eqGuard]) ?_, h2⟩
    cases op <;> first
      | exact h1
      | (simp [strBin] at e)
  · -- bool
    rename_i a b
    simp only [crel] at hx hy; subst hx; subst hy
    split at e
    · rename_i s1 b1 z1 a1 f1 ht
      have Ti := T.ty t _ ht
      obtain ⟨cv, h1, h2⟩ := eql_run (P := P) (c := c) (w := w) (t := t) (x := .bool a) (y := .bool b) e (eqIn_bool 9999 Ti.und a b) rfl rfl
      exact ⟨cv, guard (by cases op <;> simp [eqGuard]) h1, h2⟩
    · cases e
  · -- agg
    rename_i a b
    have hx' := hx
    have hy' := hy
    simp only [crel] at hx hy
    obtain ⟨xs, rfl, hx⟩ := hx
    obtain ⟨ys, rfl, hy⟩ := hy
    cases ht : E.ty t with
    | none => rw [ht] at e; cases e
    | some i =>
      rw [ht] at e
      dsimp only at e
      cases hbb : (!i.flat.isEmpty && (fitsAll i.flat a && fitsAll i.flat b)) with
      | false => rw [hbb, cond_false] at e; exact viaSym e
      | true =>
      rw [hbb, cond_true] at e
      have e1 := hbb
      have e2 := e
      simp only [Bool.and_eq_true, Bool.not_eq_true'] at e1
      obtain ⟨f1, f4, f5⟩ := e1
      obtain ⟨g1, g2⟩ := (T.ty t i ht).flat f1
      obtain ⟨cv, h1, h2⟩ := eql_run (P := P) (c := c) (w := w) (t := t) (x := .agg xs) (y := .agg ys) e2 (g2 c w a b xs ys f4 f5 hx hy) rfl rfl
      refine ⟨cv, guard ?_ h1, h2⟩
      cases op <;> simp [eqGuard, g1]
  · -- nilif, iface
    simp only [crel] at hx hy; subst hx
    obtain ⟨y1, rfl, hy⟩ := hy
    split at e
    · rename_i m s1 b1 z1 a1 f1 ht
      have Ti := T.ty t _ ht
      obtain ⟨cv, h1, h2⟩ := eql_run (P := P) (c := c) (w := w) (t := t) (x := .nilIface) (y := .iface _ y1) e (eqIn_nilif 9999 Ti.und _ _) rfl rfl
      exact ⟨cv, guard (by cases op <;> simp [eqGuard]) h1, h2⟩
    · cases e
  · simp only [crel] at hx hy; subst hy
    obtain ⟨x1, rfl, hx⟩ := hx
    split at e
    · rename_i m s1 b1 z1 a1 f1 ht
      have Ti := T.ty t _ ht
      obtain ⟨cv, h1, h2⟩ := eql_run (P := P) (c := c) (w := w) (t := t) (x := .iface _ x1) (y := .nilIface) e (eqIn_ifnil 9999 Ti.und _ _) rfl rfl
      exact ⟨cv, guard (by cases op <;> simp [eqGuard]) h1, h2⟩
    · cases e
  · simp only [crel] at hx hy; subst hx; subst hy
    split at e
    · rename_i m s1 b1 z1 a1 f1 ht
      have Ti := T.ty t _ ht
      obtain ⟨cv, h1, h2⟩ := eql_run (P := P) (c := c) (w := w) (t := t) (x := .pointer none) (y := .pointer none) e (eqIn_pnn 9999 Ti.und) rfl rfl
      exact ⟨cv, guard (by cases op <;> simp [eqGuard]) h1, h2⟩
    · cases e
  all_goals first
    | (cases e; done)
    | (exact viaSym e)
    | (simp only [crel] at hx hy
       subst hx
       first
       | (obtain ⟨b', base', _, rfl⟩ := hy)
       | (obtain ⟨b', off', rfl, _⟩ := hy)
       split at e
       · rename_i m s1 b1 z1 a1 f1 ht
         have Ti := T.ty t _ ht
         obtain ⟨cv, h1, h2⟩ := eql_run (P := P) (c := c) (w := w) (t := t) (x := .pointer none) (y := .pointer (some _)) e (eqIn_pns 9999 Ti.und _) rfl rfl
         exact ⟨cv, guard (by cases op <;> simp [eqGuard]) h1, h2⟩
       · cases e)
    | (simp only [crel] at hx hy
       subst hy
       first
       | (obtain ⟨b', base', _, rfl⟩ := hx)
       | (obtain ⟨b', off', rfl, _⟩ := hx)
       split at e
       · rename_i m s1 b1 z1 a1 f1 ht
         have Ti := T.ty t _ ht
         obtain ⟨cv, h1, h2⟩ := eql_run (P := P) (c := c) (w := w) (t := t) (x := .pointer (some _)) (y := .pointer none) e (eqIn_psn 9999 Ti.und _) rfl rfl
         exact ⟨cv, guard (by cases op <;> simp [eqGuard]) h1, h2⟩
       · cases e)

theorem nilBin_ok (T : TabOK P E) {op : BinOp} {t : Nat} {ox oy : Operand} {x y : AV} {v : AV} {xv yv : Value} (e : nilBin E op t ox oy x y = some v) (hx : crel c w x xv) (hy : crel c w y yv) :
    ∃ cv, (do eqGuard op t ox oy xv yv; binOp op t xv yv : Sem Value).run P w = .ok cv w ∧ crel c w v cv := by
  unfold nilBin at e
  split at e
  · simp only [crel] at hx hy; subst hx; subst hy
    split at e
    · rename_i m s1 b1 z1 a1 f1 ht
      have Ti := T.ty t _ ht
      have e' : eqBin op true = some v := by
        split at e
        · exact e
        · exact e
        · cases e
      have hg : (eqGuard op t ox oy .nilIface .nilIface).run P w = .ok () w := by
        split at e
        · cases op <;> simp [eqGuard]
        · cases op <;> simp [eqGuard]
        · cases e
      obtain ⟨cv, h1, h2⟩ := eql_run (P := P) (c := c) (w := w) (t := t) (x := .nilIface) (y := .nilIface) e' (eqIn_nilnil 9999 Ti.und) rfl rfl
      exact ⟨cv, by simp [hg, h1], h2⟩
    · cases e
  · exact binop_ok T e hx hy ox oy

theorem doBin_ok (T : TabOK P E) (r : HRel c h w) {op : BinOp} {t : Nat} {ox oy : Operand} {x y : AV} {xv yv : Value} (hx : crel c w x xv) (hy : crel c w y yv) :
    VON P c h w (do eqGuard op t ox oy xv yv; binOp op t xv yv) (doBin E h op t ox oy x y) := by
  unfold doBin
  cases e : nilBin E op t ox oy x y with
  | none => exact VON.none
  | some v =>
    obtain ⟨cv, h1, h2⟩ := nilBin_ok (P := P) T e hx hy
    exact VON.val r h1 h2
end
end Rfx
