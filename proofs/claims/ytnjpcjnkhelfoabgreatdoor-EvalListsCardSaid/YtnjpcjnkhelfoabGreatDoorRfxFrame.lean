/- Heaps beside heaps: a step on a part of the heap is a step on the whole. -/
import Derived.Test.YtnjpcjnkhelfoabGreatDoorRfxSwap4
set_option linter.unusedSectionVars false
set_option linter.unusedVariables false
set_option linter.unusedSimpArgs false
set_option linter.unnecessarySimpa false
namespace Rfx
open Go
variable [Val]

section
variable {c c' : Cx} {h h' hA hN : AH} {w w' : World}

def Cx.keep (c : Cx) (R : Nat → Prop) : Cx := ⟨c.loc, c.frz, R, c.base⟩

theorem Mono.keep (c : Cx) (w : World) (R : Nat → Prop) : Mono c w (c.keep R) w := ⟨fun _ _ e => e, fun _ e => e, fun _ _ => rfl, fun _ _ e => e⟩

theorem HRel.keep (r : HRel c h w) {R : Nat → Prop} (hR : ∀ o, h.next ≤ o → ¬ R o) : HRel (c.keep R) h w := by
  refine HRel.of_get ?_ r.inj r.nfz ?_ r.lt r.flt r.bse
  · intro o B ho
    obtain ⟨b, base, h1, h2⟩ := r.get ho
    exact ⟨b, base, h1, h2.mono (Mono.keep c w R) rfl⟩
  · intro o ho
    have := r.fresh o ho
    exact ⟨⟨this.1.1, hR o ho⟩, this.2⟩

theorem Step.keepR {c0 : Cx} {h0 : AH} {w0 : World} (s : Step c0 h0 w0 c h w) {R : Nat → Prop} (hR : ∀ o, h.next ≤ o → ¬ R o) (h0R : ∀ o, c0.rsv o → R o) : Step c0 h0 w0 (c.keep R) h w where
  rel := s.rel.keep hR
  loc := s.loc
  frz := s.frz
  shape := s.shape
  size := s.size
  keep := s.keep
  frz' := s.frz'
  live' := s.live'
  next := s.next
  rsv := fun o e => ⟨h0R o e, (s.rsv o e).2⟩
  base := s.base

theorem DFRel.keep {R : Nat → Prop} : ∀ {l : List DF} {ds : List Deferred}, DFRel c h w l ds → DFRel (c.keep R) h w l ds
  | [], _, hh => hh
  | .call f args :: l, _, ⟨d, ds', h1, ⟨g, x, y, A, B, X, k1, k2, k3, k4, k5⟩, h3⟩ =>
    ⟨d, ds', h1, ⟨g, x, y, A, B, X, k1, k2, crels_mono (Mono.keep c w R) _ _ k3, crels_mono (Mono.keep c w R) _ _ k4, crels_mono (Mono.keep c w R) _ _ k5⟩, DFRel.keep h3⟩
  | .mark :: l, _, ⟨blk, ds', h1, h2, h3, h4, h5⟩ => ⟨blk, ds', h1, h2, h3, h4, DFRel.keep h5⟩

theorem FRel.keep {R : Nat → Prop} {fr : Fr} {a : Act} (f : FRel c h w fr a) : FRel (c.keep R) h w fr a := ⟨f.tm.mono (Mono.keep c w R), f.n, f.dfs.keep⟩

/-- a part of the heap -/
theorem HRel.sub (r : HRel c hA w) (hn : hA.next ≤ h.next) (hs : ∀ o B, h.bs.get o = some B → hA.bs.get o = some B) : HRel c h w := by
  have hl : ∀ o, live h o → live hA o := fun o ho => by
    unfold live at *
    cases hB : h.bs.get o with
    | none => exact absurd hB ho
    | some B => rw [hs o B hB]; simp
  refine HRel.of_get (fun o B ho => r.get (hs o B ho)) (fun o o' b x y h1 h2 => r.inj o o' b x y (hl o h1) (hl o' h2)) (fun o b x h1 => r.nfz o b x (hl o h1)) (fun o ho => ?_) r.lt r.flt r.bse
  have hf := r.fresh o (Nat.le_trans hn ho)
  refine ⟨hf.1, ?_⟩
  cases hB : h.bs.get o with
  | none => rfl
  | some B => have := hs o B hB; rw [hf.2] at this; cases this

/-- a step on a part is a step on the whole -/
theorem Step.frame {R0 R : Nat → Prop} (r : HRel (c.keep R0) hA w) (hs : ∀ o B, h.bs.get o = some B → hA.bs.get o = some B) (s : Step c h w c' h' w') (n1 : hA.next ≤ hN.next)
    (hN' : ∀ o B, hN.bs.get o = some B → h'.bs.get o = some B ∨ (hA.bs.get o = some B ∧ h.bs.get o = none))
    (hloc : ∀ o, hN.next ≤ o → c'.loc o = none) (hR : ∀ o, hN.next ≤ o → ¬ R o) (h0 : ∀ o, R0 o → R o ∧ c'.loc o = c.loc o) : Step (c.keep R0) hA w (c'.keep R) hN w' := by
  have lv : ∀ {H : AH} {o B}, H.bs.get o = some B → live H o := fun {H o B} e => by unfold live; rw [e]; simp
  have sub : ∀ o, live h o → live hA o := fun o ho => by
    unfold live at ho
    cases hB : h.bs.get o with
    | none => exact absurd hB ho
    | some B => exact lv (hs o B hB)
  have ex : ∀ o, live hN o → live h' o ∨ (live hA o ∧ ¬ live h o) := fun o ho => by
    unfold live at ho
    cases hB : hN.bs.get o with
    | none => exact absurd hB ho
    | some B =>
      rcases hN' o B hB with k | ⟨k1, k2⟩
      · exact .inl (lv k)
      · exact .inr ⟨lv k1, fun hh => hh k2⟩
  -- the blocks that the step does not know
  have apart : ∀ {o b x o' x'}, live h' o → c'.loc o = some (b, x) → live hA o' → ¬ live h o' → c.loc o' = some (b, x') → False := by
    intro o b x o' x' h1 h2 h3 h4 h5
    rcases s.live' o b x h1 h2 with ⟨o2, x2, l2, e2⟩ | hge
    · have := r.inj o2 o' b x2 x' (sub o2 l2) h3 e2 h5
      subst this
      exact h4 l2
    · have := r.lt o' b x' h5; omega
  have kept : ∀ {o b x}, live hA o → ¬ live h o → c.loc o = some (b, x) → w'.heap[b]? = w.heap[b]? := by
    intro o b x h1 h2 h3
    refine s.keep b (r.lt o b x h3) fun o' x' l' e' => ?_
    have := r.inj o' o b x' x (sub o' l') h1 e' h3
    subst this
    exact h2 l'
  have r' : HRel (c'.keep R) hN w' := by
    refine HRel.of_get ?_ ?_ ?_ ?_ s.rel.lt s.rel.flt s.rel.bse
    · intro o B ho
      rcases hN' o B ho with k | ⟨k1, k2⟩
      · obtain ⟨b, base, e1, e2⟩ := s.rel.get k
        exact ⟨b, base, e1, e2.mono (Mono.keep c' w' R) rfl⟩
      · obtain ⟨b, base, e1, e2⟩ := r.get k1
        have m : Mono (c.keep R0) w (c'.keep R) w' := by
          refine ⟨s.loc, s.frz, fun b hb => s.keep b (r.flt b hb) fun o' x' l' e' => r.nfz o' b x' (sub o' l') e' hb, s.shape⟩
        exact ⟨b, base, s.loc _ _ e1, e2.mono m (kept (lv k1) (fun hh => hh k2) e1)⟩
    · intro o o' b x y h1 h2 e1 e2
      rcases ex o h1 with k | ⟨k1, k2⟩
      · rcases ex o' h2 with l | ⟨l1, l2⟩
        · exact s.rel.inj o o' b x y k l e1 e2
        · obtain ⟨B, hB⟩ := Option.ne_none_iff_exists'.1 l1
          obtain ⟨b', x', q, _⟩ := r.get hB
          have := s.loc _ _ q
          obtain ⟨rfl, rfl⟩ := Prod.mk.inj (Option.some.inj (this.symm.trans e2))
          exact (apart k e1 l1 l2 q).elim
      · obtain ⟨B, hB⟩ := Option.ne_none_iff_exists'.1 k1
        obtain ⟨b', x', q, _⟩ := r.get hB
        obtain ⟨rfl, rfl⟩ := Prod.mk.inj (Option.some.inj ((s.loc _ _ q).symm.trans e1))
        rcases ex o' h2 with l | ⟨l1, l2⟩
        · exact (apart l e2 k1 k2 q).elim
        · obtain ⟨B', hB'⟩ := Option.ne_none_iff_exists'.1 l1
          obtain ⟨b2, x2, q2, _⟩ := r.get hB'
          obtain ⟨rfl, rfl⟩ := Prod.mk.inj (Option.some.inj ((s.loc _ _ q2).symm.trans e2))
          exact r.inj o o' _ _ _ k1 l1 q q2
    · intro o b x h1 e1 hf
      rcases ex o h1 with k | ⟨k1, k2⟩
      · exact s.rel.nfz o b x k e1 hf
      · obtain ⟨B, hB⟩ := Option.ne_none_iff_exists'.1 k1
        obtain ⟨b', x', q, _⟩ := r.get hB
        obtain ⟨rfl, rfl⟩ := Prod.mk.inj (Option.some.inj ((s.loc _ _ q).symm.trans e1))
        rcases s.frz' _ hf with f | ⟨o', y, l', e'⟩ | f
        · exact r.nfz o _ _ k1 q f
        · have := r.inj o' o _ _ _ (sub o' l') k1 e' q
          subst this
          exact k2 l'
        · have := r.lt _ _ _ q; omega
    · intro o ho
      refine ⟨⟨hloc o ho, hR o ho⟩, ?_⟩
      cases hB : hN.bs.get o with
      | none => rfl
      | some B =>
        have hn := hloc o ho
        rcases hN' o B hB with k | ⟨k1, k2⟩
        · obtain ⟨b, x, q, _⟩ := s.rel.get k
          rw [hn] at q; cases q
        · obtain ⟨b, x, q, _⟩ := r.get k1
          have := s.loc _ _ q
          rw [hn] at this; cases this
  refine ⟨r', s.loc, s.frz, s.shape, s.size, fun b hb hn => s.keep b hb fun o x l e => hn o x (sub o l) e, fun b hb => ?_, fun o b x hl e => ?_, n1, h0, s.base⟩
  · rcases s.frz' b hb with f | ⟨o, x, l, e⟩ | f
    · exact .inl f
    · exact .inr (.inl ⟨o, x, sub o l, e⟩)
    · exact .inr (.inr f)
  · rcases ex o hl with k | ⟨k1, k2⟩
    · rcases s.live' o b x k e with ⟨o', x', l', e'⟩ | f
      · exact .inl ⟨o', x', sub o' l', e'⟩
      · exact .inr f
    · obtain ⟨B, hB⟩ := Option.ne_none_iff_exists'.1 k1
      obtain ⟨b', x', q, _⟩ := r.get hB
      obtain ⟨rfl, rfl⟩ := Prod.mk.inj (Option.some.inj ((s.loc _ _ q).symm.trans e))
      exact .inl ⟨o, _, k1, q⟩
end
end Rfx
