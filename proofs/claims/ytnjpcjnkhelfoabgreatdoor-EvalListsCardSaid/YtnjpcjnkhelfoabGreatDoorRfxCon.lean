/- A run from nothing, on closed arguments, gives a contract: what it made is frozen. -/
import Derived.Test.YtnjpcjnkhelfoabGreatDoorRfxCall3
set_option linter.unusedSectionVars false
set_option linter.unusedVariables false
set_option linter.unusedSimpArgs false
set_option linter.unnecessarySimpa false
namespace Rfx
open Go
variable [Val]

mutual
/-- no ids in it -/
def AV.closed : AV → Bool
  | .ptr _ _ | .sl _ _ _ _ _ | .map _ | .yld _ => false
  | .ref cs => AV.closeds cs
  | .fsl _ _ cs => AV.closeds cs
  | .func _ x y => AV.closeds x && AV.closeds y
  | .iface _ v => AV.closed v
  | .agg cs => AV.closeds cs
  | .tup cs => AV.closeds cs
  | _ => true
def AV.closeds : List AV → Bool
  | [] => true
  | a :: x => AV.closed a && AV.closeds x
end

noncomputable section
/-- what is made is read out -/
def deepF (h : AH) (d : List AV → Option (List AV)) : AV → Option AV
  | .ptr o off => match h.cells o with
    | some cs => match d (cs.drop off) with
      | some cs => some (.ref cs)
      | none => none
    | none => none
  | .sl o off len cap _ => match h.cells o with
    | some cs => match d (cs.drop off) with
      | some cs => some (.fsl len (isFull cap len) cs)
      | none => none
    | none => none
  | .map _ | .yld _ => none
  | .ref cs => match d cs with
    | some cs => some (.ref cs)
    | none => none
  | .fsl n f cs => match d cs with
    | some cs => some (.fsl n f cs)
    | none => none
  | .func f x y => match d x, d y with
    | some x, some y => some (.func f x y)
    | _, _ => none
  | .iface t v => match d [v] with
    | some [v] => some (.iface t v)
    | _ => none
  | .agg cs => match d cs with
    | some cs => some (.agg cs)
    | none => none
  | .tup cs => match d cs with
    | some cs => some (.tup cs)
    | none => none
  | v => some v
def deepL (f : AV → Option AV) : List AV → Option (List AV)
  | [] => some []
  | a :: x => match f a, deepL f x with
    | some a, some x => some (a :: x)
    | _, _ => none
def deepA (h : AH) (n : Nat) : AV → Option AV :=
  Nat.rec (motive := fun _ => AV → Option AV) (fun _ => none) (fun _ ih => deepF h (deepL ih)) n
end

variable {P : Program} {E : Env} {c c' : Cx} {h h' : AH} {w w' : World}

/-- nothing of one's own -/
def Cx.bare (c : Cx) : Cx := ⟨fun _ => none, c.frz, fun _ => False, c.base⟩
/-- all that is new is frozen -/
def Cx.wide (c : Cx) (w w' : World) : Cx := ⟨c.loc, fun b => c.frz b ∨ (w.heap.size ≤ b ∧ b < w'.heap.size), c.rsv, c.base⟩

mutual
theorem crel_bare : ∀ (a : AV) (v : Value), a.closed = true → crel c w a v → crel c.bare w a v
  | .undef, _ => fun _ _ => by simp [crel]
  | .bool _, _ => fun _ h => by simpa only [crel] using h
  | .int _ _, _ => fun _ h => by simpa only [crel] using h
  | .sym _ _, _ => fun _ h => by simpa only [crel] using h
  | .ext _, _ => fun _ h => by simp only [crel] at h ⊢; exact h
  | .str _, _ => fun _ h => by simpa only [crel] using h
  | .nilp, _ => fun _ h => by simpa only [crel] using h
  | .ptr o off, v => fun k => by simp [AV.closed] at k
  | .ref cs, v => fun k h => by
    simp only [crel] at h ⊢
    simp only [AV.closed] at k
    obtain ⟨b, off, h1, h2, h3⟩ := h
    exact ⟨b, off, h1, h2, crelm_bare cs b off k h3⟩
  | .nilsl, _ => fun _ h => by simpa only [crel] using h
  | .sl o off len cap sz, v => fun k => by simp [AV.closed] at k
  | .esl, _ => fun _ h => by simpa only [crel] using h
  | .fsl len full cs, v => fun k h => by
    simp only [crel] at h ⊢
    simp only [AV.closed] at k
    obtain ⟨b, off, cp, h1, h2, h3, h4, h5⟩ := h
    exact ⟨b, off, cp, h1, h2, h3, h4, crelm_bare cs b off k h5⟩
  | .nilmap, _ => fun _ h => by simpa only [crel] using h
  | .map o, v => fun k => by simp [AV.closed] at k
  | .func f x y, v => fun k h => by
    simp only [crel] at h ⊢
    simp only [AV.closed, Bool.and_eq_true] at k
    obtain ⟨A, B, h1, h2, h3⟩ := h
    exact ⟨A, B, h1, crels_bare x _ k.1 h2, crels_bare y _ k.2 h3⟩
  | .yld l, v => fun k => by simp [AV.closed] at k
  | .nilfunc, _ => fun _ h => by simpa only [crel] using h
  | .iface t x, v => fun k h => by
    simp only [crel] at h ⊢
    simp only [AV.closed] at k
    obtain ⟨y, h1, h2⟩ := h
    exact ⟨y, h1, crel_bare x y k h2⟩
  | .nilif, _ => fun _ h => by simpa only [crel] using h
  | .agg cs, v => fun k h => by
    simp only [crel] at h ⊢
    simp only [AV.closed] at k
    obtain ⟨A, h1, h2⟩ := h
    exact ⟨A, h1, crels_bare cs _ k h2⟩
  | .tup cs, v => fun k h => by
    simp only [crel] at h ⊢
    simp only [AV.closed] at k
    obtain ⟨A, h1, h2⟩ := h
    exact ⟨A, h1, crels_bare cs _ k h2⟩
theorem crels_bare : ∀ (a : List AV) (v : List Value), AV.closeds a = true → crels c w a v → crels c.bare w a v
  | [], _ => fun _ h => by simpa only [crels] using h
  | a :: x, vs => fun k h => by
    simp only [crels] at h ⊢
    simp only [AV.closeds, Bool.and_eq_true] at k
    obtain ⟨v, y, h1, h2, h3⟩ := h
    exact ⟨v, y, h1, crel_bare a v k.1 h2, crels_bare x y k.2 h3⟩
theorem crelm_bare : ∀ (a : List AV) (b off : Nat), AV.closeds a = true → crelm c w a b off → crelm c.bare w a b off
  | [], _, _ => fun _ _ => by simp [crelm]
  | a :: x, b, off => fun k h => by
    simp only [crelm] at h ⊢
    simp only [AV.closeds, Bool.and_eq_true] at k
    obtain ⟨⟨v, h1, h2⟩, h3⟩ := h
    exact ⟨⟨v, h1, crel_bare a v k.1 h2⟩, crelm_bare x b (off + 1) k.2 h3⟩
end

theorem HRel.bare (r : HRel c h w) : HRel c.bare ⟨0, .nil⟩ w where
  cells := fun o cs e => by simp [Tr.get_nil] at e
  maps := fun o es e => by simp [Tr.get_nil] at e
  loops := fun o _ _ _ _ _ _ _ _ e => by simp [Tr.get_nil] at e
  inj := fun o o' b x y l => by simp [live, Tr.get_nil] at l
  nfz := fun o b x l => by simp [live, Tr.get_nil] at l
  fresh := fun o _ => ⟨⟨rfl, fun h => h⟩, Tr.get_nil o⟩
  lt := fun o b x e => by cases e
  flt := r.flt
  bse := r.bse

theorem not_live_nil (o : Nat) : ¬ live ⟨0, .nil⟩ o := fun l => by simp [live, Tr.get_nil] at l

theorem wide_mono (r : HRel c h w) (s : Step c.bare ⟨0, .nil⟩ w c' h' w') : Mono c w (c.wide w w') w' :=
  ⟨fun _ _ e => e, fun _ e => .inl e, fun b hb => s.keep b (r.flt b hb) fun o x l => absurd l (not_live_nil o), s.shape⟩

theorem HRel.wide (r : HRel c h w) (s : Step c.bare ⟨0, .nil⟩ w c' h' w') : HRel (c.wide w w') h w' where
  cells := fun o cs ho => by
    obtain ⟨b, base, arr, ty, fz, h1, h2, h3, h4⟩ := r.cells o cs ho
    have m := wide_mono r s
    refine ⟨b, base, arr, ty, fz, h1, ?_, h3, ?_⟩
    · rw [s.keep b (r.lt o b base h1) fun o x l => absurd l (not_live_nil o)]; exact h2
    · refine ⟨crelm_mono m cs b base (fun off => ?_) h4.1, h4.2⟩
      simp only [World.cell?, s.keep b (r.lt o b base h1) fun o x l => absurd l (not_live_nil o)]
  maps := fun o es ho => by
    obtain ⟨b, E, clk, h1, h2, h3⟩ := r.maps o es ho
    refine ⟨b, E, clk, h1, ?_, crelE_mono (wide_mono r s) h3⟩
    rw [s.keep b (r.lt o b 0 h1) fun o x l => absurd l (not_live_nil o)]; exact h2
  loops := fun o fi tm n ps a b st pend ho => by
    obtain ⟨blk, rr, h1, h2, h4, h5⟩ := r.loops o fi tm n ps a b st pend ho
    refine ⟨blk, rr, h1, ?_, h4.mono (wide_mono r s), h5⟩
    rw [s.keep blk (r.lt o blk 0 h1) fun o x l => absurd l (not_live_nil o)]; exact h2
  inj := r.inj
  nfz := fun o b x l e hf => by
    have := r.lt o b x e
    rcases hf with hf | hf
    · exact r.nfz o b x l e hf
    · omega
  fresh := r.fresh
  lt := fun o b x e => Nat.lt_of_lt_of_le (r.lt o b x e) s.size
  flt := fun b hb => by
    rcases hb with hb | hb
    · exact Nat.lt_of_lt_of_le (r.flt b hb) s.size
    · exact hb.2
  bse := ⟨Nat.le_trans r.bse.1 s.size, s.rel.bse.2⟩

theorem Step.wide (r : HRel c h w) (s : Step c.bare ⟨0, .nil⟩ w c' h' w') : Step c h w (c.wide w w') h w' where
  rel := r.wide s
  loc := fun _ _ e => e
  frz := fun _ e => .inl e
  shape := s.shape
  size := s.size
  keep := fun b hb _ => s.keep b hb fun o x l => absurd l (not_live_nil o)
  frz' := fun b e => by
    rcases e with e | e
    · exact .inl e
    · exact .inr (.inr e.1)
  live' := fun o b x l e => .inl ⟨o, x, l, e⟩
  next := Nat.le_refl _
  rsv := fun _ e => ⟨e, rfl⟩
  base := rfl

theorem deepL_rel {f : AV → Option AV} {c'' : Cx} (hf : ∀ a a' v, f a = some a' → crel c' w' a v → crel c'' w' a' v) :
    ∀ (l l' : List AV), deepL f l = some l' → (∀ vs, crels c' w' l vs → crels c'' w' l' vs) ∧ (∀ b off, crelm c' w' l b off → crelm c'' w' l' b off) := by
  intro l
  induction l with
  | nil =>
    intro l' e
    simp only [deepL, Option.some.injEq] at e
    subst e
    exact ⟨fun vs h => by simpa only [crels] using h, fun _ _ _ => by simp [crelm]⟩
  | cons a x ih =>
    intro l' e
    unfold deepL at e
    cases h1 : f a with
    | none => rw [h1] at e; cases e
    | some a' =>
    cases h2 : deepL f x with
    | none => rw [h1, h2] at e; cases e
    | some x' =>
    rw [h1, h2] at e
    simp only [Option.some.injEq] at e
    subst e
    obtain ⟨k1, k2⟩ := ih x' h2
    refine ⟨fun vs h => ?_, fun b off h => ?_⟩
    · simp only [crels] at h ⊢
      obtain ⟨v, y, e1, e2, e3⟩ := h
      exact ⟨v, y, e1, hf _ _ _ h1 e2, k1 _ e3⟩
    · simp only [crelm] at h ⊢
      obtain ⟨⟨v, e1, e2⟩, e3⟩ := h
      exact ⟨⟨v, e1, hf _ _ _ h1 e2⟩, k2 _ _ e3⟩

theorem deep_frz (r : HRel c h w) (s : Step c.bare ⟨0, .nil⟩ w c' h' w') {b : Nat} (hb : c'.frz b) : (c.wide w w').frz b := by
  rcases s.frz' b hb with h1 | ⟨o, x, l, e⟩ | h1
  · exact .inl h1
  · exact absurd l (not_live_nil o)
  · exact .inr ⟨h1, s.rel.flt b hb⟩

theorem cells_get {o : Nat} {cs : List AV} (e : h'.cells o = some cs) : h'.bs.get o = some (.cells cs) := by
  unfold AH.cells at e
  split at e
  · rename_i cs' h1
    simp only [Option.some.injEq] at e
    subst e; exact h1
  · cases e

theorem deep_at (r : HRel c h w) (s : Step c.bare ⟨0, .nil⟩ w c' h' w') {o off : Nat} {cs : List AV} (e : h'.cells o = some cs) :
    ∃ b base, c'.loc o = some (b, base) ∧ (c.wide w w').frz b ∧ crelm c' w' (cs.drop off) b (base + off) := by
  have hg := cells_get e
  obtain ⟨b, base, arr, ty, fz, h1, h2, h3, h4, h5⟩ := s.rel.cells o cs hg
  refine ⟨b, base, h1, ?_, crelm_drop off h4⟩
  have hl : live h' o := by unfold live; rw [hg]; simp
  rcases s.live' o b base hl h1 with ⟨o', x', l', _⟩ | hge
  · exact absurd l' (not_live_nil o')
  · exact .inr ⟨hge, s.rel.lt o b base h1⟩

theorem deep_rel (r : HRel c h w) (s : Step c.bare ⟨0, .nil⟩ w c' h' w') : ∀ (n : Nat) (a a' : AV) (v : Value), deepA h' n a = some a' → crel c' w' a v → crel (c.wide w w') w' a' v := by
  intro n
  induction n with
  | zero => intro a a' v e; cases e
  | succ n ih =>
    intro a a' v e hr
    have hL := deepL_rel (c'' := c.wide w w') ih
    replace e : deepF h' (deepL (deepA h' n)) a = some a' := e
    unfold deepF at e
    cases a with
    | ptr o off =>
      dsimp only at e
      cases h1 : h'.cells o with
      | none => rw [h1] at e; cases e
      | some cs =>
        rw [h1] at e; dsimp only at e
        cases h2 : deepL (deepA h' n) (cs.drop off) with
        | none => rw [h2] at e; cases e
        | some cs' =>
          rw [h2] at e
          simp only [Option.some.injEq] at e
          subst e
          obtain ⟨b, base, k1, k2, k3⟩ := deep_at r s (off := off) h1
          simp only [crel] at hr ⊢
          obtain ⟨b', base', m1, m2⟩ := hr
          rw [k1] at m1
          simp only [Option.some.injEq, Prod.mk.injEq] at m1
          obtain ⟨rfl, rfl⟩ := m1
          exact ⟨b, base + off, m2, k2, (hL _ _ h2).2 _ _ k3⟩
    | sl o off len cap sz =>
      dsimp only at e
      cases h1 : h'.cells o with
      | none => rw [h1] at e; cases e
      | some cs =>
        rw [h1] at e; dsimp only at e
        cases h2 : deepL (deepA h' n) (cs.drop off) with
        | none => rw [h2] at e; cases e
        | some cs' =>
          rw [h2] at e
          simp only [Option.some.injEq] at e
          subst e
          obtain ⟨b, base, k1, k2, k3⟩ := deep_at r s (off := off) h1
          simp only [crel] at hr ⊢
          obtain ⟨b', base', cp, m1, m2, m3, m4, _⟩ := hr
          rw [k1] at m1
          simp only [Option.some.injEq, Prod.mk.injEq] at m1
          obtain ⟨rfl, rfl⟩ := m1
          refine ⟨b, base + off, cp, m2, m3, fun hf => ?_, k2, (hL _ _ h2).2 _ _ k3⟩
          cases cap with
          | none => simp [isFull] at hf
          | some x =>
            have hx := m4 x rfl
            simp only [isFull] at hf
            have := beq_t hf
            omega
    | map o => cases e
    | yld l => cases e
    | ext j =>
      simp only [Option.some.injEq] at e
      subst e
      simp only [crel] at hr ⊢
      exact ⟨hr.1, hr.2.1, deep_frz r s hr.2.2.1, hr.2.2.2⟩
    | ref cs =>
      dsimp only at e
      cases h2 : deepL (deepA h' n) cs with
      | none => rw [h2] at e; cases e
      | some cs' =>
        rw [h2] at e
        simp only [Option.some.injEq] at e
        subst e
        simp only [crel] at hr ⊢
        obtain ⟨b, off, m1, m2, m3⟩ := hr
        exact ⟨b, off, m1, deep_frz r s m2, (hL _ _ h2).2 _ _ m3⟩
    | fsl len full cs =>
      dsimp only at e
      cases h2 : deepL (deepA h' n) cs with
      | none => rw [h2] at e; cases e
      | some cs' =>
        rw [h2] at e
        simp only [Option.some.injEq] at e
        subst e
        simp only [crel] at hr ⊢
        obtain ⟨b, off, cp, m1, m2, m3, m4, m5⟩ := hr
        exact ⟨b, off, cp, m1, m2, m3, deep_frz r s m4, (hL _ _ h2).2 _ _ m5⟩
    | func f x y =>
      dsimp only at e
      cases h1 : deepL (deepA h' n) x with
      | none => rw [h1] at e; cases e
      | some x' =>
      cases h2 : deepL (deepA h' n) y with
      | none => rw [h1, h2] at e; cases e
      | some y' =>
        rw [h1, h2] at e
        simp only [Option.some.injEq] at e
        subst e
        simp only [crel] at hr ⊢
        obtain ⟨A, B, m1, m2, m3⟩ := hr
        exact ⟨A, B, m1, (hL _ _ h1).1 _ m2, (hL _ _ h2).1 _ m3⟩
    | iface t x =>
      dsimp only at e
      cases h2 : deepL (deepA h' n) [x] with
      | none => rw [h2] at e; cases e
      | some l =>
        rw [h2] at e
        simp only [crel] at hr
        obtain ⟨y, rfl, m2⟩ := hr
        obtain ⟨k, _⟩ := hL _ _ h2
        have k' := k [y] (crels_one m2)
        cases l with
        | nil => cases e
        | cons a l =>
          cases l with
          | cons _ _ => cases e
          | nil =>
            simp only [Option.some.injEq] at e
            subst e
            obtain ⟨v, e1, e2⟩ := crels_of_one k'
            simp only [List.cons.injEq, and_true] at e1
            subst e1
            simp only [crel]
            exact ⟨y, rfl, e2⟩
    | agg cs =>
      dsimp only at e
      cases h2 : deepL (deepA h' n) cs with
      | none => rw [h2] at e; cases e
      | some cs' =>
        rw [h2] at e
        simp only [Option.some.injEq] at e
        subst e
        simp only [crel] at hr ⊢
        obtain ⟨A, m1, m2⟩ := hr
        exact ⟨A, m1, (hL _ _ h2).1 _ m2⟩
    | tup cs =>
      dsimp only at e
      cases h2 : deepL (deepA h' n) cs with
      | none => rw [h2] at e; cases e
      | some cs' =>
        rw [h2] at e
        simp only [Option.some.injEq] at e
        subst e
        simp only [crel] at hr ⊢
        obtain ⟨A, m1, m2⟩ := hr
        exact ⟨A, m1, (hL _ _ h2).1 _ m2⟩
    | _ =>
      simp only [Option.some.injEq] at e
      subst e
      simpa only [crel] using hr

mutual
def AV.same : AV → AV → Bool
  | .undef, b => match b with | .undef => true | _ => false
  | .bool x, b => match b with | .bool y => x == y | _ => false
  | .int k n, b => match b with | .int j m => decide (k = j) && decide (n = m) | _ => false
  | .ext n, b => match b with | .ext m => Nat.beq n m | _ => false
  | .sym k n, b => match b with | .sym j m => decide (k = j) && Nat.beq n m | _ => false
  | .str x, b => match b with | .str y => x == y | _ => false
  | .nilp, b => match b with | .nilp => true | _ => false
  | .ref x, b => match b with | .ref y => AV.sames x y | _ => false
  | .nilsl, b => match b with | .nilsl => true | _ => false
  | .esl, b => match b with | .esl => true | _ => false
  | .fsl n f x, b => match b with | .fsl m g y => Nat.beq n m && (f == g && AV.sames x y) | _ => false
  | .nilmap, b => match b with | .nilmap => true | _ => false
  | .func n x x', b => match b with | .func m y y' => Nat.beq n m && (AV.sames x y && AV.sames x' y') | _ => false
  | .nilfunc, b => match b with | .nilfunc => true | _ => false
  | .iface n x, b => match b with | .iface m y => Nat.beq n m && AV.same x y | _ => false
  | .nilif, b => match b with | .nilif => true | _ => false
  | .agg x, b => match b with | .agg y => AV.sames x y | _ => false
  | .tup x, b => match b with | .tup y => AV.sames x y | _ => false
  | _, _ => false
def AV.sames : List AV → List AV → Bool
  | [], b => match b with | [] => true | _ => false
  | a :: x, b => match b with | c :: y => AV.same a c && AV.sames x y | [] => false
end

mutual
theorem same_eq : ∀ (a b : AV), AV.same a b = true → a = b
  | .undef, b => fun h => by cases b <;> simp_all [AV.same]
  | .bool x, b => fun h => by cases b <;> simp_all [AV.same]
  | .int k n, b => fun h => by cases b <;> simp_all [AV.same]
  | .sym k n, b => fun h => by
    cases b <;> simp only [AV.same, Bool.false_eq_true, Bool.and_eq_true, decide_eq_true_eq] at h
    obtain ⟨h1, h2⟩ := h
    rw [h1, beq_t h2]
  | .ext n, b => fun h => by
    cases b <;> simp only [AV.same, Bool.false_eq_true] at h
    rw [beq_t h]
  | .str x, b => fun h => by cases b <;> simp_all [AV.same]
  | .nilp, b => fun h => by cases b <;> simp_all [AV.same]
  | .ptr _ _, b => fun h => by cases b <;> simp_all [AV.same]
  | .ref x, b => fun h => by
    cases b <;> simp only [AV.same, Bool.false_eq_true] at h
    rw [sames_eq x _ h]
  | .nilsl, b => fun h => by cases b <;> simp_all [AV.same]
  | .sl _ _ _ _ _, b => fun h => by cases b <;> simp_all [AV.same]
  | .esl, b => fun h => by cases b <;> simp_all [AV.same]
  | .fsl n f x, b => fun h => by
    cases b <;> simp only [AV.same, Bool.false_eq_true, Bool.and_eq_true, beq_iff_eq] at h
    obtain ⟨h1, h2, h3⟩ := h
    rw [beq_t h1, h2, sames_eq x _ h3]
  | .nilmap, b => fun h => by cases b <;> simp_all [AV.same]
  | .map _, b => fun h => by cases b <;> simp_all [AV.same]
  | .func n x x', b => fun h => by
    cases b <;> simp only [AV.same, Bool.false_eq_true, Bool.and_eq_true] at h
    obtain ⟨h1, h2, h3⟩ := h
    rw [beq_t h1, sames_eq x _ h2, sames_eq x' _ h3]
  | .yld _, b => fun h => by cases b <;> simp_all [AV.same]
  | .nilfunc, b => fun h => by cases b <;> simp_all [AV.same]
  | .iface n x, b => fun h => by
    cases b <;> simp only [AV.same, Bool.false_eq_true, Bool.and_eq_true] at h
    obtain ⟨h1, h2⟩ := h
    rw [beq_t h1, same_eq x _ h2]
  | .nilif, b => fun h => by cases b <;> simp_all [AV.same]
  | .agg x, b => fun h => by
    cases b <;> simp only [AV.same, Bool.false_eq_true] at h
    rw [sames_eq x _ h]
  | .tup x, b => fun h => by
    cases b <;> simp only [AV.same, Bool.false_eq_true] at h
    rw [sames_eq x _ h]
theorem sames_eq : ∀ (a b : List AV), AV.sames a b = true → a = b
  | [], b => fun h => by cases b <;> simp_all [AV.sames]
  | a :: x, b => fun h => by
    cases b <;> simp only [AV.sames, Bool.false_eq_true, Bool.and_eq_true] at h
    obtain ⟨h1, h2⟩ := h
    rw [same_eq a _ h1, sames_eq x _ h2]
end

/-- what a run came to, read out -/
noncomputable def gives (r : Option (Res × AH)) (n : Nat) (v : AV) : Bool :=
  match r with
  | some (.ret x, h) => (match deepA h n x with
    | some y => AV.same y v
    | none => false)
  | _ => false

/-- a run from nothing on closed arguments is a contract -/
theorem con_of_run (T : FnOK P E) {n m f : Nat} {args : List AV} {v : AV} (hcl : AV.closeds args = true) (hg : gives (evalN E n f args ⟨0, .nil⟩) m v = true) :
    ∀ c h w (A : Array Value) k, HRel c h w → crels c w args A.toList → CallsIn (FR none) k P f A w (CPost c h w (.ret v) h) := by
  intro c h w A k r hA
  cases he : evalN E n f args ⟨0, .nil⟩ with
  | none => rw [he] at hg; simp [gives] at hg
  | some p =>
    obtain ⟨res, h'⟩ := p
    rw [he] at hg
    cases res with
    | panic _ => simp [gives] at hg
    | ret x =>
      simp only [gives] at hg
      cases hd : deepA h' m x with
      | none => rw [hd] at hg; simp at hg
      | some y =>
        rw [hd] at hg
        have hy := same_eq _ _ hg
        subst hy
        refine (evalN_ok T n f args _ _ _ he c.bare w A r.bare (crels_bare _ _ hcl hA) k).mono fun en w' hp => ?_
        obtain ⟨c', s, cv, h1, h2⟩ := hp
        exact ⟨c.wide w w', Step.wide r s, cv, h1, deep_rel r s m x y cv hd h2⟩

/-! ### contracts by tables -/
def conT : List (Nat × List AV × AV) → Nat → List AV → Option AV
  | [], _, _ => none
  | (g, a, v) :: l, f, args => bif Nat.beq g f && AV.sames a args then some v else conT l f args

theorem conT_ok {l : List (Nat × List AV × AV)} {f : Nat} {args : List AV} {v : AV} (e : conT l f args = some v)
    {Q : Nat → List AV → AV → Prop} (h : ∀ x, x ∈ l → Q x.1 x.2.1 x.2.2) : Q f args v := by
  induction l with
  | nil => cases e
  | cons x l ih =>
    obtain ⟨g, a, u⟩ := x
    unfold conT at e
    cases hb : (Nat.beq g f && AV.sames a args) with
    | true =>
      rw [hb, cond_true] at e
      simp only [Option.some.injEq] at e
      rw [Bool.and_eq_true] at hb
      have h1 := beq_t hb.1
      have h2 := sames_eq _ _ hb.2
      have := h (g, a, u) (List.mem_cons_self ..)
      dsimp only at this
      rw [← h1, ← h2, ← e]; exact this
    | false =>
      rw [hb, cond_false] at e
      exact ih e fun x hx => h x (List.mem_cons_of_mem _ hx)
end Rfx
