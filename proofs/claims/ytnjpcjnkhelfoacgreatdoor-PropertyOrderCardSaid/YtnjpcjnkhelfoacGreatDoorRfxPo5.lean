/- PropertyOrder returns true from every world. -/
import Derived.Test.YtnjpcjnkhelfoacGreatDoorRfxPo4
import Derived.Test.YtnjpcjnkhelfoacGreatDoorRfxLv
set_option linter.unusedSectionVars false
set_option linter.unusedVariables false
set_option linter.unusedSimpArgs false
set_option linter.unnecessarySimpa false
namespace Rfx.RfxEnvC
set_option maxRecDepth 20000
open Go Go.Proofs

section
variable {a b c x y k : Int}

def rhoP (a b c x y k : Int) : Nat → Int := fun | 0 => a | 1 => b | 2 => c | 3 => x | 4 => y | 5 => k | _ => 0
theorem elIx_eq {v : AV} {i : Nat} (h : elIx v = some i) : v = el i ∧ i < 6 := by
  unfold elIx at h
  have go : ∀ {n : Nat} {o : Option Nat} {r : Nat}, (bif AV.same (el n) v then some n else o) = some r → (v = el n ∧ r = n) ∨ o = some r := by
    intro n o r h
    cases hs : AV.same (el n) v with
    | true => rw [hs, cond_true] at h; cases h; exact .inl ⟨(@same_eq V0 _ _ hs).symm, rfl⟩
    | false => rw [hs, cond_false] at h; exact .inr h
  rcases go h with ⟨h1, rfl⟩ | h
  · exact ⟨h1, by omega⟩
  rcases go h with ⟨h1, rfl⟩ | h
  · exact ⟨h1, by omega⟩
  rcases go h with ⟨h1, rfl⟩ | h
  · exact ⟨h1, by omega⟩
  rcases go h with ⟨h1, rfl⟩ | h
  · exact ⟨h1, by omega⟩
  rcases go h with ⟨h1, rfl⟩ | h
  · exact ⟨h1, by omega⟩
  rcases go h with ⟨h1, rfl⟩ | h
  · exact ⟨h1, by omega⟩
  · cases h

variable {w0 : World}
theorem el_inv {cx : Cx} {w : World} {i : Nat} (hi : i < 6) {v : Value} (h : @crel (valAt (rhoP a b c x y k) w0) cx w (el i) v) : v = outV (ki a b c i) (ai x y i) (ci x k i) := by
  match i, hi with
  | 0, _ | 1, _ | 2, _ | 3, _ | 4, _ | 5, _ => exact @out_inv (valAt (rhoP a b c x y k) w0) _ _ _ _ _ _ _ _ _ h rfl rfl rfl
theorem el_den {i : Nat} (hi : i < 6) : (elC i).map (@denK (valAt (rhoP a b c x y k) w0)) = [.int .i64 (ki a b c i), .int .i64 (ai x y i), .int .i64 (ci x k i)] := by
  match i, hi with
  | 0, _ | 1, _ | 2, _ | 3, _ | 4, _ | 5, _ => rfl
theorem el_fits {i : Nat} (hi : i < 6) : fitsAll2 [.i .i64, .i .i64, .i .i64] (elC i) = true := by
  match i, hi with
  | 0, _ | 1, _ | 2, _ | 3, _ | 4, _ | 5, _ => rfl

theorem symM_ok (w0 : World) (op : BinOp) (t : Nat) (u v r : AV) (e : symM (tb a b c x y k) op t u v = some r) (cx : Cx) (w : World) (xv yv : Value)
    (hx : @crel (valAt (rhoP a b c x y k) w0) cx w u xv) (hy : @crel (valAt (rhoP a b c x y k) w0) cx w v yv) :
    (∀ ox oy, (eqGuard op t ox oy xv yv).run Tryz.prog w = .ok () w) ∧ ∃ cv, (binOp op t xv yv).run Tryz.prog w = .ok cv w ∧ @crel (valAt (rhoP a b c x y k) w0) cx w r cv := by
  letI V := valAt (rhoP a b c x y k) w0
  unfold symM at e
  split at e
  · rename_i j n
    obtain ⟨e1, e2⟩ := cond_some e
    have hj := blt_t e1
    simp only [crel] at hx hy
    subst hx; subst hy
    have hv : Val.val j = ki a b c j := by
      match j, hj with
      | 0, _ | 1, _ | 2, _ => rfl
    have fin : ∀ {bb : Bool} {op : BinOp}, intBin op .i64 (Val.val j) n = some (.bool bb) → isShift op = false → (∀ ox oy, (eqGuard op t ox oy (.int .i64 (Val.val j)) (.int .i64 n)).run Tryz.prog w = .ok () w) → r = .bool bb →
        (∀ ox oy, (eqGuard op t ox oy (.int .i64 (Val.val j)) (.int .i64 n)).run Tryz.prog w = .ok () w) ∧ ∃ cv, (binOp op t (.int .i64 (Val.val j)) (.int .i64 n)).run Tryz.prog w = .ok cv w ∧ crel cx w r cv := by
      intro bb op h1 h2 h3 h4
      subst h4
      obtain ⟨cv, q1, q2⟩ := intBin_ok (P := Tryz.prog) (c := cx) (w := w) (t := t) h1 h2
      exact ⟨h3, cv, q1, q2⟩
    split at e2
    · cases h1 : (n == 1) with
      | true =>
        rw [h1, cond_true] at e2
        cases e2
        simp only [beq_iff_eq] at h1
        subst h1
        exact fin (bb := decide (ki a b c j = 1)) (by rw [hv]; rfl) rfl (fun _ _ => by simp [eqGuard]) rfl
      | false =>
        rw [h1, cond_false] at e2
        obtain ⟨h2, e2⟩ := cond_some e2
        cases e2
        simp only [beq_iff_eq] at h2
        subst h2
        exact fin (bb := decide (ki a b c j = 2)) (by rw [hv]; rfl) rfl (fun _ _ => by simp [eqGuard]) rfl
    · obtain ⟨h2, e2⟩ := cond_some e2
      cases e2
      simp only [beq_iff_eq] at h2
      subst h2
      exact fin (bb := decide (0 ≤ ki a b c j)) (by rw [hv]; rfl) rfl (fun _ _ => by simp [eqGuard]) rfl
    · obtain ⟨h2, e2⟩ := cond_some e2
      cases e2
      simp only [beq_iff_eq] at h2
      subst h2
      exact fin (bb := decide (ki a b c j < 3)) (by rw [hv]; rfl) rfl (fun _ _ => by simp [eqGuard]) rfl
    · cases e2
  · rename_i p q
    obtain ⟨e1, e2⟩ := cond_some e
    have := beq_t e1
    subst this
    split at e2
    · rename_i i j h1 h2
      obtain ⟨g1, i6⟩ := elIx_eq h1
      obtain ⟨g2, j6⟩ := elIx_eq h2
      cases g1; cases g2
      refine symAgg_ok (ks := [.i .i64, .i .i64, .i .i64]) flat26 (el_fits i6) (el_fits j6) (q := (tb a b c x y k).Q i j) ?_ e2 cx w xv yv hx hy
      rw [el_den i6, el_den j6]
      simp only [AV.beqs, AV.beq, decide_true, Bool.true_and, Bool.and_true]
      rfl
    · cases e2
  · cases e

theorem okM (w0 : World) : @FnOK (valAt (rhoP a b c x y k) w0) Tryz.prog (envM (tb a b c x y k)) :=
  letI V := valAt (rhoP a b c x y k) w0
  { tab := { ty := ok.tab.ty, fn := ok.tab.fn, ext := ok.tab.ext, mixed := ok.tab.mixed, sym := fun op t u v r e cx w xv yv hx hy => symM_ok w0 op t u v r e cx w xv yv hx hy }
    con := by
      intro f args v e cx h w A n r hA
      replace e : conM (tb a b c x y k) f args = some v := e
      unfold conM at e
      split at e
      · obtain ⟨e1, e2⟩ := cond_some e
        have := beq_t e1
        subst this
        cases e2
        have : A = #[] := Array.ext' (by simpa [crels] using hA)
        subst this
        exact lives_ok _ cx h w n r
      · obtain ⟨e1, e2⟩ := cond_some e
        have := beq_t e1
        subst this
        split at e2
        · rename_i u i h1
          obtain ⟨rfl, i6⟩ := elIx_eq h1
          cases e2
          obtain ⟨z, hz, hv⟩ := crels_of_one hA
          have hz2 := el_inv i6 hv
          have : A = #[outV (ki a b c i) (ai x y i) (ci x k i)] := Array.ext' (by rw [hz, hz2])
          subst this
          exact fails_ok _ _ _ _ cx h w n r
        · cases e2
      · rename_i u v'
        split at e
        · rename_i i j h1 h2
          obtain ⟨rfl, i6⟩ := elIx_eq h1
          obtain ⟨rfl, j6⟩ := elIx_eq h2
          simp only [crels] at hA
          obtain ⟨z1, y1, hz, hv1, z2, y2, hz', hv2, hz''⟩ := hA
          have q1 := el_inv i6 hv1
          have q2 := el_inv j6 hv2
          have : A = #[outV (ki a b c i) (ai x y i) (ci x k i), outV (ki a b c j) (ai x y j) (ci x k j)] := Array.ext' (by rw [hz, hz', hz'', q1, q2])
          subst this
          cases hf : (Nat.beq f 5 || Nat.beq f 6) with
          | true =>
            rw [hf, cond_true] at e
            cases e
            rw [Bool.or_eq_true] at hf
            rcases hf with hf | hf
            · have := beq_t hf
              subst this
              exact worse_of (.inl rfl) worse_all _ _ _ _ _ _ _ cx h w n r
            · have := beq_t hf
              subst this
              exact worse_of (.inr rfl) rworse_all _ _ _ _ _ _ _ cx h w n r
          | false =>
            rw [hf, cond_false] at e
            obtain ⟨e1, e2⟩ := cond_some e
            have := beq_t e1
            subst this
            cases e2
            exact same_ok _ _ _ _ _ _ _ cx h w n r
        · cases e
      · cases e
    draws := fun f fn cd h hb => by
      rw [drawsOk_congr (E := env) (E' := envM (tb a b c x y k)) rfl]
      exact ok.draws f fn cd h hb }

/-- what is left behind -/
def Left (w w' : World) : Prop := (∀ b, b < w.heap.size → w'.heap[b]? = w.heap[b]?) ∧ w.heap.size ≤ w'.heap.size ∧ w'.os = w.os ∧ w'.output = w.output

theorem order_calls (a b c x y k : Int) (w : World) : Calls Tryz.prog 3 #[.int .i64 a, .int .i64 b, .int .i64 c, .int .i64 x, .int .i64 y, .int .i64 k] w fun e w' => e = .returned (.bool true) ∧ Left w w' := by
  letI V := valAt (rhoP a b c x y k) w
  obtain ⟨h', hr⟩ := run (tb_ok a b c x y k)
  let c0 : Cx := ⟨fun _ => none, fun _ => False, fun _ => False, 0⟩
  have r0 : HRel c0 ⟨0, .nil⟩ w := LowOK.bare (c := c0) ⟨rfl, rfl⟩ ⟨fun _ h => h.elim, Nat.zero_le _⟩
  have hA : crels c0 w args6 (#[.int .i64 a, .int .i64 b, .int .i64 c, .int .i64 x, .int .i64 y, .int .i64 k] : Array Value).toList :=
    crels_cons (by simp only [crel]; rfl) (crels_cons (by simp only [crel]; rfl) (crels_cons (by simp only [crel]; rfl) (crels_cons (by simp only [crel]; rfl) (crels_cons (by simp only [crel]; rfl) (crels_one (by simp only [crel]; rfl))))))
  refine ((evalN_ok (okM w) 51 3 args6 _ _ _ hr c0 w _ r0 hA 0).mono ?_).calls (fun _ => by simp [Fence.room, FR])
  intro e w' hp
  obtain ⟨c', s, cv, h1, h2⟩ := hp
  simp only [crel] at h2
  subst h2
  have n := Step.newOK (c := c0) ⟨rfl, rfl⟩ s
  exact ⟨h1, n.keep, n.size, n.out.1, n.out.2⟩
end
end Rfx.RfxEnvC
