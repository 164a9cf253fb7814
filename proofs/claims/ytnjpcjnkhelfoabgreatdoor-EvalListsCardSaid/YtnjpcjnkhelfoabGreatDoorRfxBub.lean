/- Drawn regions, fifth part: an operation that may stand first is brought to the front. -/
import Derived.Test.YtnjpcjnkhelfoabGreatDoorRfxFrame
set_option linter.unusedSectionVars false
set_option linter.unusedVariables false
set_option linter.unusedSimpArgs false
set_option linter.unnecessarySimpa false
namespace Rfx
open Go
variable [Val]

section
variable {E : Env} {call : Call} {d : Dw} {all : List Oper} {base n : Nat}

theorem dRun_nil {s : DS} : dRun E call d all base n [] s = some (.normal, s.fr, fl base n (2 ^ n - 1) s.done s.pend s.h) := rfl
theorem dRun_cons {i : Nat} {l : List Nat} {s : DS} : dRun E call d all base n (i :: l) s = dNext (dRun E call d all base n l) (dOne E call d all base n i s) := rfl

theorem dRun_head {i : Nat} {l : List Nat} {s : DS} {out : AE × Fr × AH} (e : dRun E call d all base n (i :: l) s = some out) :
    (∃ s1, dOne E call d all base n i s = some (.go s1) ∧ dRun E call d all base n l s1 = some out) ∨ (∃ ex fr h, dOne E call d all base n i s = some (.stop ex fr h) ∧ out = (ex, fr, h)) := by
  rw [dRun_cons] at e
  cases hr : dOne E call d all base n i s with
  | none => rw [hr] at e; cases e
  | some r =>
    rw [hr] at e
    cases r with
    | go s1 => exact .inl ⟨s1, rfl, e⟩
    | stop ex fr h => simp only [dNext, Option.some.injEq] at e; exact .inr ⟨ex, fr, h, rfl, e.symm⟩

theorem dRun_go {i : Nat} {l : List Nat} {s s1 : DS} (e : dOne E call d all base n i s = some (.go s1)) : dRun E call d all base n (i :: l) s = dRun E call d all base n l s1 := by
  rw [dRun_cons, e]; rfl
theorem dRun_stop {i : Nat} {l : List Nat} {s : DS} {ex : AE} {fr : Fr} {h : AH} (e : dOne E call d all base n i s = some (.stop ex fr h)) : dRun E call d all base n (i :: l) s = some (ex, fr, h) := by
  rw [dRun_cons, e]; rfl

theorem dOne_some {i : Nat} {s : DS} {r : DR} (e : dOne E call d all base n i s = some r) : ∃ o, all[i]? = some o := by
  unfold dOne at e
  split at e
  · cases e
  · rename_i o ho; exact ⟨o, ho⟩

/-- what one operation leaves -/
theorem dOne_shape {i : Nat} {s s1 : DS} (e : dOne E call d all base n i s = some (.go s1)) : ∃ o, all[i]? = some o ∧
    (∀ k r v, .rd k r v ∈ s1.ws → .rd k r v ∈ s.ws ∨ (k = i ∧ kindOf o.op = .read)) ∧ (∀ k, s1.pend.get k ≠ none → s.pend.get k ≠ none ∨ (k = i ∧ kindOf o.op = .alloc)) := by
  obtain ⟨o, ho⟩ := dOne_some e
  refine ⟨o, ho, ?_⟩
  rw [dOne_eq E call d all base n ho] at e
  obtain ⟨v, ws1, B, done1, h1, fr1, c1, p1, rfl⟩ := cEnd_go e
  cases hp : plan E all base i o s.fr.tm with
  | none => unfold core at c1; rw [hp] at c1; cases c1
  | some p =>
    have kp := plan_kind hp
    rw [core_of hp] at c1
    cases p with
    | fr u C =>
      simp only [cDo, Option.some.injEq, DC.val.injEq] at c1
      obtain ⟨rfl, rfl, rfl, rfl, rfl⟩ := c1
      refine ⟨fun k r v h => .inl h, fun k hk => ?_⟩
      cases C with
      | none => exact .inl hk
      | some C =>
        by_cases e : i = k
        · exact .inr ⟨e.symm, kp⟩
        · simp only [setO] at hk; rw [Tr.get_set_ne _ _ e] at hk; exact .inl hk
    | rd r =>
      simp only [cDo] at c1
      split at c1
      · simp only [Option.some.injEq, DC.val.injEq] at c1
        obtain ⟨rfl, rfl, rfl, rfl, rfl⟩ := c1
        refine ⟨fun k r v h => ?_, fun k hk => .inl hk⟩
        simp only [List.mem_cons] at h
        rcases h with h | h
        · obtain ⟨rfl, _, _⟩ := Wt.rd.inj h; exact .inr ⟨rfl, kp.1⟩
        · exact .inl h
      · cases c1
    | ef sto =>
      simp only [cDo] at c1
      rcases cAft_cases c1 with ⟨u, h2, hr, _, _⟩ | ⟨u, h2, hr, _⟩
      · simp only [DC.val.injEq] at hr
        obtain ⟨rfl, rfl, rfl, rfl, rfl⟩ := hr
        refine ⟨fun k r v h => ?_, fun k hk => .inl hk⟩
        cases sto with
        | none => exact .inl h
        | some b => simp only [stw, List.mem_cons] at h; exact .inl (h.resolve_left fun h => by cases h)
      · cases hr

theorem dOne_pan {i : Nat} {s : DS} {ex : AE} {fr : Fr} {h : AH} (e : dOne E call d all base n i s = some (.stop ex fr h)) : d.pan.testBit i = true := by
  obtain ⟨o, ho⟩ := dOne_some e
  rw [dOne_eq E call d all base n ho] at e
  obtain ⟨v, c1, _⟩ := cEnd_stop e
  cases hp : plan E all base i o s.fr.tm with
  | none => unfold core at c1; rw [hp] at c1; cases c1
  | some p =>
    rw [core_of hp] at c1
    cases p with
    | fr u C => cases c1
    | rd r => simp only [cDo] at c1; split at c1 <;> cases c1
    | ef sto =>
      simp only [cDo] at c1
      rcases cAft_cases c1 with ⟨u, h2, hr, _, _⟩ | ⟨u, h2, hr, hb, _⟩
      · cases hr
      · exact hb

/-! ### fewer watched -/
def SubOK (E : Env) (call : Call) (d : Dw) (all : List Oper) (base n i : Nat) (s : DS) : DR → Prop
  | .go s1' => ∃ s1, dOne E call d all base n i s = some (.go s1) ∧ Sub s1 s1'
  | .stop ex fr h => dOne E call d all base n i s = some (.stop ex fr h)

def SubC (x : Option DC) : DC → Prop
  | .val v w B dn g => ∃ w2, x = some (.val v w2 B dn g) ∧ ∀ x ∈ w2, x ∈ w
  | .stop v g => x = some (.stop v g)

theorem dOne_sub {i : Nat} {s s' : DS} {r : DR} (hs : Sub s s') (e : dOne E call d all base n i s' = some r) : SubOK E call d all base n i s r := by
  obtain ⟨o, ho⟩ := dOne_some e
  obtain ⟨ws, pend, done, fr, h⟩ := s
  obtain ⟨ws', pend', done', fr', h'⟩ := s'
  obtain ⟨hw, e1, e2, e3, e4⟩ := hs
  dsimp only at hw e1 e2 e3 e4
  subst e1; subst e2; subst e3; subst e4
  have e0 := dOne_eq E call d all base n (s := ⟨ws, pend, done, fr, h⟩) ho
  rw [dOne_eq E call d all base n ho] at e
  dsimp only at e e0
  cases hp : plan E all base i o fr.tm with
  | none => unfold core at e; rw [hp] at e; cases e
  | some p =>
    rw [core_of hp] at e e0
    -- the core
    have key : ∀ c, cDo E call d base n i o fr.tm ws' pend done h (some p) = some c → SubC (cDo E call d base n i o fr.tm ws pend done h (some p)) c := by
      intro c hc
      cases p with
      | fr u C => cases hc; exact ⟨ws, rfl, hw⟩
      | rd r =>
        simp only [cDo] at hc ⊢
        split at hc
        · rename_i v g hg
          cases hc
          refine ⟨.rd i r v :: ws, rfl, fun x hx => ?_⟩
          simp only [List.mem_cons] at hx ⊢
          exact hx.imp id (hw x)
        · cases hc
      | ef sto =>
        simp only [cDo] at hc ⊢
        rcases cAft_cases hc with ⟨u, h2, rfl, hwt, hall⟩ | ⟨u, h2, rfl, _, hall⟩
        · exact ⟨_, hall ws (watch_sub hw hwt), stw_sub hw⟩
        · exact hall ws
    cases hc : cDo E call d base n i o fr.tm ws' pend done h (some p) with
    | none => rw [hc] at e; cases e
    | some c =>
      have hk := key c hc
      rw [hc] at e
      cases c with
      | stop v g =>
        simp only [SubC] at hk
        rw [hk] at e0
        simp only [cEnd, Option.some.injEq] at e
        subst e
        exact e0
      | val v w B dn g =>
        obtain ⟨w2, k1, k2⟩ := hk
        rw [k1] at e0
        simp only [cEnd] at e e0
        cases hf : putF fr o.dst v with
        | none => rw [hf] at e; cases e
        | some f =>
          rw [hf] at e e0
          simp only [Option.some.injEq] at e
          subst e
          exact ⟨_, e0, k2, rfl, rfl, rfl, rfl⟩

theorem dRun_sub : ∀ {l : List Nat} {s s' : DS} {out : AE × Fr × AH}, Sub s s' → dRun E call d all base n l s' = some out → dRun E call d all base n l s = some out
  | [], s, s', out, hs, e => by
    rw [dRun_nil] at e ⊢
    rw [hs.fr, hs.done, hs.pend, hs.h]; exact e
  | i :: l, s, s', out, hs, e => by
    rcases dRun_head e with ⟨s1', h1, h2⟩ | ⟨ex, fr, h, h1, rfl⟩
    · obtain ⟨s1, k1, k2⟩ := dOne_sub hs h1
      rw [dRun_go k1]; exact dRun_sub k2 h2
    · rw [dRun_stop (dOne_sub hs h1)]

/-! ### to the front -/
def InvW (d : Dw) (all : List Oper) (s : DS) (l : List Nat) : Prop := ∀ z ∈ l, (∀ k r v, .rd k r v ∈ s.ws → d.bit k z = false) ∧
  ∀ o, all[z]? = some o → d.lax.testBit z = true → kindOf o.op = .store → (∀ k, s.pend.get k ≠ none → d.bit z k = true) ∧ (∀ k r v, .rd k r v ∈ s.ws → d.bit z k = true)

theorem InvW.one {i : Nat} {l : List Nat} {s s1 : DS} (hp : ∀ z ∈ l, pairOk d all i z = true) (hi : InvW d all s l) (e : dOne E call d all base n i s = some (.go s1)) : InvW d all s1 l := by
  obtain ⟨o, ho, h1, h2⟩ := dOne_shape e
  intro z hz
  obtain ⟨o', p, ho', hpp, hne, hv, hh⟩ := pairOk_spec (hp z hz)
  rw [ho] at ho'; cases ho'
  obtain ⟨a1, a2⟩ := hi z hz
  refine ⟨fun k r v hm => ?_, fun q hq hl hk => ?_⟩
  · rcases h1 k r v hm with h | ⟨rfl, _⟩
    · exact a1 k r v h
    · exact hv
  · rw [hpp] at hq; cases hq
    obtain ⟨b1, b2⟩ := a2 p hpp hl hk
    refine ⟨fun k hk' => ?_, fun k r v hm => ?_⟩
    · rcases h2 k hk' with h | ⟨rfl, hka⟩
      · exact b1 k h
      · refine hh.resolve_right fun hx => ?_
        have := hx.2.2
        rw [hka, hk, hl] at this; cases this
    · rcases h1 k r v hm with h | ⟨rfl, hka⟩
      · exact b2 k r v h
      · refine hh.resolve_right fun hx => ?_
        have := hx.2.2
        rw [hka, hk, hl] at this; cases this

theorem bubble : ∀ {pre : List Nat} {j : Nat} {post : List Nat} {s : DS} {out : AE × Fr × AH}, (pre ++ j :: post).Pairwise (fun x y => pairOk d all x y = true) → (∀ x ∈ pre, d.bit j x = false) →
    InvW d all s (pre ++ j :: post) → dRun E call d all base n (pre ++ j :: post) s = some out → dRun E call d all base n (j :: (pre ++ post)) s = some out
  | [], _, _, _, _, _, _, _, h => h
  | x :: pre, j, post, s, out, hp, hb, hi, h => by
    simp only [List.cons_append, List.pairwise_cons] at hp
    obtain ⟨hx, hp⟩ := hp
    have hxj := hx j (by simp)
    have hbj := hb x List.mem_cons_self
    rcases dRun_head h with ⟨s1, h1, h2⟩ | ⟨ex, fr, hh, h1, rfl⟩
    · have hi1 : InvW d all s1 (pre ++ j :: post) := InvW.one hx (fun z hz => hi z (List.mem_cons_of_mem _ hz)) h1
      have ih := bubble hp (fun y hy => hb y (List.mem_cons_of_mem _ hy)) hi1 h2
      have ix := hi x (by simp)
      have ij := hi j (by simp)
      have hW : ∀ k r v, Wt.rd k r v ∈ s.ws → d.bit k x = false ∧ d.bit k j = false := fun k r v hm => ⟨ix.1 k r v hm, ij.1 k r v hm⟩
      have hL : ∀ z o, z = x ∨ z = j → all[z]? = some o → d.lax.testBit z = true → kindOf o.op = .store → (∀ k, s.pend.get k ≠ none → d.bit z k = true) ∧ (∀ k r v, .rd k r v ∈ s.ws → d.bit z k = true) := by
        rintro z o (rfl | rfl) ho hl hk
        · exact ix.2 o ho hl hk
        · exact ij.2 o ho hl hk
      rcases dRun_head ih with ⟨s2, k1, k2⟩ | ⟨ex, fr, hh, k1, rfl⟩
      · obtain ⟨s1', q1, s2', q2, q3⟩ := swap hxj hbj hW hL h1 k1
        show dRun E call d all base n (j :: x :: (pre ++ post)) s = some out
        rw [dRun_go q1, dRun_go q2]
        exact dRun_sub q3 k2
      · exact dRun_stop (swap hxj hbj hW hL h1 k1)
    · obtain ⟨o, p, _, _, _, _, hh⟩ := pairOk_spec hxj
      rcases hh with hh | hh
      · rw [hbj] at hh; cases hh
      · rw [dOne_pan h1] at hh; exact absurd hh.1 (by simp)

theorem pairs_of : ∀ {l : List Nat}, pairsOk d all l = true → l.Pairwise (fun x y => pairOk d all x y = true)
  | [], _ => List.Pairwise.nil
  | x :: l, h => by
    simp only [pairsOk, Bool.and_eq_true, List.all_eq_true] at h
    exact List.pairwise_cons.2 ⟨h.1, pairs_of h.2⟩
end
end Rfx
