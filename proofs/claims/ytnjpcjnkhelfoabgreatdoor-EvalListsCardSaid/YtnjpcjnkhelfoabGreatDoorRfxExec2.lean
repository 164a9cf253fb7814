/- Code, second part: what is frozen behind a region; sequences, tests, blocks, loops. -/
import Derived.Test.YtnjpcjnkhelfoabGreatDoorRfxExec
set_option linter.unusedSectionVars false
set_option linter.unusedVariables false
set_option linter.unusedSimpArgs false
set_option linter.unnecessarySimpa false
namespace Rfx
open Go
variable [Val]

variable {P : Program} {E : Env} {c c' : Cx} {h h' : AH} {w w' : World}

theorem frz1_ok (r : HRel c h w) {v v' : AV} (e : frz1 h v = (v', h')) : ∃ c', Step c h w c' h' w ∧ ∀ cv, crel c w v cv → crel c' w v' cv := by
  have same : (v, h) = (v', h') → ∃ c', Step c h w c' h' w ∧ ∀ cv, crel c w v cv → crel c' w v' cv := fun e => by
    obtain ⟨rfl, rfl⟩ := Prod.mk.inj e
    exact ⟨c, Step.refl r, fun _ h => h⟩
  unfold frz1 at e
  split at e
  · rename_i o off len cap sz
    split at e
    · rename_i cs hcs
      obtain ⟨rfl, rfl⟩ := Prod.mk.inj e
      have hg := r.row hcs
      have hlive : live h o := by unfold live; rw [hg]; simp
      have s := Step.drop r o True fun _ => hlive
      refine ⟨_, s, fun cv hv => ?_⟩
      simp only [crel] at hv ⊢
      obtain ⟨b, base, cp, g1, rfl, g2, g3, _⟩ := hv
      obtain ⟨b', base', arr, ty, fz, q1, q2, q3, q4, q5⟩ := r.cells o cs hg
      obtain ⟨rfl, rfl⟩ := Prod.mk.inj (Option.some.inj (q1.symm.trans g1))
      refine ⟨b', _, cp, rfl, g2, fun hf => ?_, .inr ⟨trivial, _, q1⟩, crelm_mono (s.mono r) _ _ _ (fun _ => rfl) (crelm_drop off q4)⟩
      unfold isFull at hf
      split at hf
      · rw [g3 _ rfl]; exact beq_t hf
      · cases hf
    · exact same e
  · rename_i o off
    split at e
    · rename_i cs hcs
      obtain ⟨rfl, rfl⟩ := Prod.mk.inj e
      have hg := r.row hcs
      have hlive : live h o := by unfold live; rw [hg]; simp
      have s := Step.drop r o True fun _ => hlive
      refine ⟨_, s, fun cv hv => ?_⟩
      simp only [crel] at hv ⊢
      obtain ⟨b, base, g1, rfl⟩ := hv
      obtain ⟨b', base', arr, ty, fz, q1, q2, q3, q4, q5⟩ := r.cells o cs hg
      obtain ⟨rfl, rfl⟩ := Prod.mk.inj (Option.some.inj (q1.symm.trans g1))
      exact ⟨b', _, rfl, .inr ⟨trivial, _, q1⟩, crelm_mono (s.mono r) _ _ _ (fun _ => rfl) (crelm_drop off q4)⟩
    · exact same e
  · exact same e

theorem TRel.reset {tm : Tr AV} {tmps : Array Value} (ht : TRel c w tm tmps) {t : Nat} {v : AV} (hv : crel c w v (tmps.getD t undef)) : TRel c w (tm.set t v) tmps := fun u => by
  by_cases e : t = u
  · subst e; rw [Tr.get_set_same]; exact hv
  · rw [Tr.get_set_ne _ _ e]; exact ht u

theorem crels_set {cs : List AV} {vs : List Value} {i : Nat} {x : AV} (hr : crels c w cs vs) (hx : ∀ y, vs[i]? = some y → crel c w x y) : crels c w (cs.set i x) vs := by
  rw [crels_iff] at hr ⊢
  refine ⟨by simpa using hr.1, fun j y hy => ?_⟩
  rw [List.getElem?_set] at hy
  by_cases e : i = j
  · subst e
    rw [if_pos rfl] at hy
    split at hy
    · rename_i hlt
      simp only [Option.some.injEq] at hy
      subst hy
      have : vs[i]? = some vs[i] := List.getElem?_eq_getElem (by rw [hr.1]; exact hlt)
      exact ⟨_, this, hx _ this⟩
    · cases hy
  · rw [if_neg e] at hy; exact hr.2 j y hy

theorem ghost1_ok (r : HRel c h w) {fr fr' : Fr} {a : Act} (f : FRel c h w fr a) {t : Nat} {at_ : Option Nat} (e : ghost1 fr h t at_ = (fr', h')) : ∃ c', Step c h w c' h' w ∧ FRel c' h' w fr' a := by
  have same : (fr, h) = (fr', h') → ∃ c', Step c h w c' h' w ∧ FRel c' h' w fr' a := fun e => by
    obtain ⟨rfl, rfl⟩ := Prod.mk.inj e
    exact ⟨c, Step.refl r, f⟩
  have hT := f.tm t
  unfold ghost1 at e
  split at e
  · exact same e
  · rename_i v hv
    rw [hv] at hT
    simp only [Option.getD_some] at hT
    split at e
    · cases hz : frz1 h v with
      | mk v1 h1 =>
        rw [hz] at e
        obtain ⟨rfl, rfl⟩ := Prod.mk.inj e
        obtain ⟨c1, s1, k1⟩ := frz1_ok r hz
        exact ⟨c1, s1, (f.tm.mono (s1.mono r)).reset (k1 _ hT), f.n, f.dfs.step r s1⟩
    · rename_i i
      split at e
      · rename_i cs
        split at e
        · rename_i x hx
          cases hz : frz1 h x with
          | mk v1 h1 =>
            rw [hz] at e
            obtain ⟨rfl, rfl⟩ := Prod.mk.inj e
            obtain ⟨c1, s1, k1⟩ := frz1_ok r hz
            refine ⟨c1, s1, (f.tm.mono (s1.mono r)).reset ?_, f.n, f.dfs.step r s1⟩
            simp only [crel] at hT ⊢
            obtain ⟨A, hA, hr⟩ := hT
            refine ⟨A, hA, crels_set (crels_mono (s1.mono r) _ _ hr) fun y hy => ?_⟩
            obtain ⟨y', y1, y2⟩ := crels_get _ hr hx
            rw [y1] at hy; cases hy
            exact k1 _ y2
        · exact same e
      · exact same e

theorem ghosts_ok : ∀ (l : List (Nat × Option Nat)) {c : Cx} {h : AH} {fr fr' : Fr} {a : Act} {e : AE} {h' : AH}, HRel c h w → FRel c h w fr a → ghosts l fr h = some (e, fr', h') →
    e = .normal ∧ ∃ c', Step c h w c' h' w ∧ FRel c' h' w fr' a
  | [], c, h, fr, fr', a, e, h', r, f, hg => by
    simp only [ghosts, Option.some.injEq, Prod.mk.injEq] at hg
    obtain ⟨rfl, rfl, rfl⟩ := hg
    exact ⟨rfl, c, Step.refl r, f⟩
  | (t, x) :: l, c, h, fr, fr', a, e, h', r, f, hg => by
    simp only [ghosts] at hg
    cases hz : ghost1 fr h t x with
    | mk fr1 h1 =>
      rw [hz] at hg
      obtain ⟨c1, s1, f1⟩ := ghost1_ok r f hz
      obtain ⟨rfl, c2, s2, f2⟩ := ghosts_ok l s1.rel f1 hg
      exact ⟨rfl, c2, s1.trans s2, f2⟩

theorem keepTm_ok {tm : Tr AV} : ∀ (l : List Nat) (t : Nat) (v : AV), (keepTm tm l).get t = some v → tm.get t = some v
  | [], t, v, e => by simp [keepTm, Tr.get_nil] at e
  | u :: l, t, v, e => by
    unfold keepTm at e
    cases hu : tm.get u with
    | none => rw [hu] at e; exact keepTm_ok l t v e
    | some x =>
      rw [hu] at e
      dsimp only at e
      rw [Tr.get_set] at e
      split at e
      · rename_i hh; subst hh; rw [hu]; exact e
      · exact keepTm_ok l t v e

theorem TRel.keepTm {c : Cx} {tm : Tr AV} {tmps : Array Value} (l : List Nat) (f : TRel c w tm tmps) : TRel c w (Rfx.keepTm tm l) tmps := by
  intro t
  cases hk : (Rfx.keepTm tm l).get t with
  | none => exact crel_undef _
  | some v =>
    have := f t
    rw [keepTm_ok l t v hk] at this
    exact this

theorem HRel.letGo {c : Cx} {h : AH} (r : HRel c h w) : HRel c ⟨h.next, .nil⟩ w where
  cells := fun o cs e => by simp [Tr.get_nil] at e
  maps := fun o es e => by simp [Tr.get_nil] at e
  loops := fun o _ _ _ _ _ _ _ _ e => by simp [Tr.get_nil] at e
  inj := fun o o' b x y l => by simp [live, Tr.get_nil] at l
  nfz := fun o b x l => by simp [live, Tr.get_nil] at l
  fresh := fun o ho => ⟨(r.fresh o ho).1, Tr.get_nil o⟩
  lt := r.lt
  flt := r.flt
  bse := r.bse

theorem Step.letGo {c : Cx} {h : AH} (r : HRel c h w) : Step c h w c ⟨h.next, .nil⟩ w :=
  ⟨r.letGo, fun _ _ e => e, fun _ e => e, fun _ _ e => e, Nat.le_refl _, fun _ _ _ => rfl, fun _ e => .inl e, fun o b x l => by simp [live, Tr.get_nil] at l, Nat.le_refl _, fun _ e => ⟨e, rfl⟩, rfl⟩

theorem keep_ok (k : Option (List Nat × Bool)) (l : List (Nat × Option Nat)) {c : Cx} {h : AH} {fr fr' : Fr} {a : Act} {e : AE} {h' : AH} (r : HRel c h w) (f : FRel c h w fr a) (hg : keepK k (ghosts l fr h) = some (e, fr', h')) :
    e = .normal ∧ ∃ c', Step c h w c' h' w ∧ FRel c' h' w fr' a := by
  cases k with
  | none => exact ghosts_ok l r f hg
  | some kb =>
    obtain ⟨ks, b⟩ := kb
    cases hq : ghosts l fr h with
    | none => rw [hq] at hg; cases hg
    | some x =>
      obtain ⟨e1, fr1, h1⟩ := x
      rw [hq] at hg
      simp only [keepK, Option.some.injEq, Prod.mk.injEq] at hg
      obtain ⟨rfl, rfl, rfl⟩ := hg
      obtain ⟨rfl, c1, s1, f1⟩ := ghosts_ok l r f hq
      refine ⟨rfl, c1, ?_⟩
      cases b with
      | false => exact ⟨s1, f1.tm.keepTm ks, f1.n, f1.dfs⟩
      | true =>
        have s2 := Step.letGo s1.rel
        exact ⟨s1.trans s2, (f1.tm.mono (s2.mono s1.rel)).keepTm ks, f1.n, f1.dfs.step s1.rel s2⟩

/-- what comes behind a piece of code -/
theorem thenK_ok {k : K} {r : Out} {e : AE} {fr' : Fr} {h' : AH} (hh : thenK k r = some (e, fr', h')) :
    (∃ fr1 h1, r = some (.normal, fr1, h1) ∧ k fr1 h1 = some (e, fr', h')) ∨ (e ≠ .normal ∧ r = some (e, fr', h')) := by
  unfold thenK at hh
  split at hh
  · exact .inl ⟨_, _, rfl, hh⟩
  · rename_i hne
    cases r with
    | none => cases hh
    | some x =>
      obtain ⟨e1, fr1, h1⟩ := x
      cases hh
      refine .inr ⟨?_, rfl⟩
      rintro rfl
      exact hne _ _ rfl

theorem XRel.not_normal {e : AE} {ex : Exit} (hx : XRel c w e ex) (hn : e ≠ .normal) : ex ≠ .normal := by
  rintro rfl
  cases e <;> simp [XRel] at hx hn

theorem then_other {next : Act → World → Prop} {Q : Exit → Act → World → Prop} {ex : Exit} {a : Act} {w : World} (hne : ex ≠ .normal) (hq : Q ex a w) : Exit.then next Q ex a w := by
  cases ex <;> simp_all [Exit.then]

/-- the table's entries for the regions of a piece of code hold what they must -/
def drawsOk (E : Env) (fnid : Nat) : Code → Bool
  | .region id ops draw => !draw || (match E.ord fnid id with | some d => drawOk ops d | none => true)
  | .seq x y => drawsOk E fnid x && drawsOk E fnid y
  | .cond _ x y => drawsOk E fnid x && drawsOk E fnid y
  | .block _ x => drawsOk E fnid x
  | .loop x => drawsOk E fnid x
  | _ => true

theorem region_ok (T : TabOK P E) {call : Call} {yield : Yield} (hc : CallOK P call) (hy : YieldOK P yield) {rnd : Bool} {ro : Option Nat} (hro : rnd = false → ro = none)
    (hdraw : ∀ id ops d c h w fr a e fr' h', drawOk ops d = true → drawRun E call ops d fr h = some (e, fr', h') → HRel c h w → FRel c h w fr a → ∀ n, (Code.region id ops true).wpIn (FR none) n P (EPost c h w e fr' h') a w)
    (fnid id : Nat) (ops : Array Oper) (draw : Bool) (hok : rnd = false → drawsOk E fnid (.region id ops draw) = true) : KOK P ro (regionK E call yield rnd fnid id ops draw) (.region id ops draw) := by
  intro c h w fr a e fr' h' hr r f n
  unfold regionK at hr
  -- the region without what is frozen behind it
  have base : ∀ e1 fr1 h1, (bif draw then (bif rnd then none else match E.ord fnid id with
        | some d => drawRun E call ops d fr h
        | none => none)
     else runOps E call yield rnd ops.toList ops.toList fr h) = some (e1, fr1, h1) → (Code.region id ops draw).wpIn (FR ro) n P (EPost c h w e1 fr1 h1) a w := by
    intro e1 fr1 h1 hb
    cases draw with
    | false =>
      simp only [cond_false] at hb
      refine wpIn_region ?_
      have := runOps_ok T hc hy hro ops n ops.toList [] (by simp) c h w fr a (Step.refl r) f hb
      rw [List.range_eq_range']
      simpa using this
    | true =>
      simp only [cond_true] at hb
      cases rnd with
      | true => cases hb
      | false =>
        simp only [cond_false] at hb
        rw [hro rfl]
        have hok := hok rfl
        simp only [drawsOk] at hok
        split at hb
        · rename_i d hd
          rw [hd] at hok
          exact hdraw id ops d c h w fr a e1 fr1 h1 (by simpa using hok) hb r f n
        · cases hb
  rcases thenK_ok hr with ⟨fr1, h1, k1, k2⟩ | ⟨_, k1⟩
  · refine wpIn_mono (base _ _ _ k1) fun ex a' w' hp => ?_
    obtain ⟨c1, s1, f1, hx⟩ := hp
    obtain ⟨rfl, c2, s2, f2⟩ := keep_ok _ _ s1.rel f1 k2
    simp only [XRel] at hx
    subst hx
    exact ⟨c2, s1.trans s2, f2, rfl⟩
  · exact base _ _ _ k1

theorem seq_ok {ro : Option Nat} {ka kb : K} {x y : Code} (ha : KOK P ro ka x) (hb : KOK P ro kb y) : KOK P ro (fun fr h => thenK kb (ka fr h)) (.seq x y) := by
  intro c h w fr a e fr' h' hr r f n
  refine wpIn_seq ?_
  rcases thenK_ok hr with ⟨fr1, h1, k1, k2⟩ | ⟨hne, k1⟩
  · refine wpIn_mono (ha c h w fr a _ _ _ k1 r f n) fun ex a' w' hp => ?_
    obtain ⟨c1, s1, f1, hx⟩ := hp
    simp only [XRel] at hx
    subst hx
    refine wpIn_mono (hb c1 h1 w' fr1 a' _ _ _ k2 s1.rel f1 n) fun ex2 a2 w2 hp2 => hp2.trans s1
  · refine wpIn_mono (ha c h w fr a _ _ _ k1 r f n) fun ex a' w' hp => ?_
    have hp' := hp
    obtain ⟨c1, s1, f1, hx⟩ := hp
    exact then_other (hx.not_normal hne) hp'

theorem cond_ok {ro : Option Nat} {ka kb : K} {q : Operand} {x y : Code} (ha : KOK P ro ka x) (hb : KOK P ro kb y) : KOK P ro (fun fr h => condK (opnd fr.tm q) ka kb fr h) (.cond q x y) := by
  intro c h w fr a e fr' h' hr r f n
  have hq := f.tm.opnd q
  dsimp only at hr
  cases hv : opnd fr.tm q with
  | bool v =>
    rw [hv] at hq hr
    simp only [crel] at hq
    cases v with
    | true =>
      simp only [condK] at hr
      exact wpIn_cond_true hq (ha c h w fr a _ _ _ hr r f n)
    | false =>
      simp only [condK] at hr
      exact wpIn_cond_false hq (hb c h w fr a _ _ _ hr r f n)
  | _ => rw [hv] at hr; simp only [condK] at hr; cases hr

theorem blockK_ok {id : Nat} {r : Out} {e : AE} {fr' : Fr} {h' : AH} (hh : blockK id r = some (e, fr', h')) :
    (r = some (.exit id, fr', h') ∧ e = .normal) ∨ (r = some (e, fr', h') ∧ e ≠ .exit id) := by
  cases r with
  | none => cases hh
  | some x =>
    obtain ⟨e1, fr1, h1⟩ := x
    cases e1 with
    | exit i =>
      simp only [blockK] at hh
      cases hb : Nat.beq i id with
      | true =>
        rw [hb] at hh
        simp only [cond_true, Option.some.injEq, Prod.mk.injEq] at hh
        obtain ⟨rfl, rfl, rfl⟩ := hh
        rw [beq_t hb]
        exact .inl ⟨rfl, rfl⟩
      | false =>
        rw [hb] at hh
        simp only [cond_false, Option.some.injEq, Prod.mk.injEq] at hh
        obtain ⟨rfl, rfl, rfl⟩ := hh
        refine .inr ⟨rfl, ?_⟩
        rintro he
        cases he
        simp at hb
    | normal => cases hh; exact .inr ⟨rfl, by simp⟩
    | ret => cases hh; exact .inr ⟨rfl, by simp⟩
    | panic v => cases hh; exact .inr ⟨rfl, by simp⟩

theorem block_ok {ro : Option Nat} {k : K} {id : Nat} {x : Code} (hk : KOK P ro k x) : KOK P ro (fun fr h => blockK id (k fr h)) (.block id x) := by
  intro c h w fr a e fr' h' hr r f n
  refine wpIn_block ?_
  rcases blockK_ok hr with ⟨k1, rfl⟩ | ⟨k1, hne⟩
  · refine wpIn_mono (hk c h w fr a _ _ _ k1 r f n) fun ex a' w' hp => ?_
    obtain ⟨c1, s1, f1, hx⟩ := hp
    simp only [XRel] at hx
    subst hx
    simp only [Exit.inBlock, if_true]
    exact ⟨c1, s1, f1, rfl⟩
  · refine wpIn_mono (hk c h w fr a _ _ _ k1 r f n) fun ex a' w' hp => ?_
    have hp' := hp
    obtain ⟨c1, s1, f1, hx⟩ := hp
    cases e with
    | exit i =>
      simp only [XRel] at hx
      subst hx
      simp only [Exit.inBlock]
      rw [if_neg (by rintro rfl; exact hne rfl)]
      exact hp'
    | normal => simp only [XRel] at hx; subst hx; exact hp'
    | ret => simp only [XRel] at hx; subst hx; exact hp'
    | panic v => obtain ⟨cv, rfl, _⟩ := hx; exact hp'

theorem loopA_succ {k : K} {n : Nat} {fr : Fr} : loopA k (n + 1) fr h = thenK (loopA k n) (k fr h) := rfl

theorem loop_ok {ro : Option Nat} {k : K} {x : Code} (hk : KOK P ro k x) (m : Nat) : KOK P ro (loopA k m) (.loop x) := by
  intro c h w fr a e fr' h' hr r f n
  refine wpIn_loop_rounds m ?_
  have key : ∀ (m : Nat) (c0 : Cx) (h0 : AH) (w0 : World) (c : Cx) (h : AH) (w : World) (fr : Fr) (a : Act), Step c0 h0 w0 c h w → FRel c h w fr a → loopA k m fr h = some (e, fr', h') → Code.roundsIn (FR ro) n P x (EPost c0 h0 w0 e fr' h') m a w := by
    intro m
    induction m with
    | zero => intro c0 h0 w0 c h w fr a s f hr; cases hr
    | succ m ih =>
      intro c0 h0 w0 c h w fr a s f hr
      rw [roundsIn_succ]
      rw [loopA_succ] at hr
      rcases thenK_ok hr with ⟨fr1, h1, k1, k2⟩ | ⟨hne, k1⟩
      · refine wpIn_mono (hk c h w fr a _ _ _ k1 s.rel f n) fun ex a' w' hp => ?_
        obtain ⟨c1, s1, f1, hx⟩ := hp
        simp only [XRel] at hx
        subst hx
        exact ih c0 h0 w0 c1 h1 w' fr1 a' (s.trans s1) f1 k2
      · refine wpIn_mono (hk c h w fr a _ _ _ k1 s.rel f n) fun ex a' w' hp => ?_
        have hp' := hp
        obtain ⟨c1, s1, f1, hx⟩ := hp
        exact then_other (hx.not_normal hne) (hp'.trans s)
  exact key m c h w c h w fr a (Step.refl r) f hr

theorem KOK.none {ro : Option Nat} {x : Code} : KOK P ro (fun _ _ => none) x := fun _ _ _ _ _ _ _ _ hr => by cases hr

theorem exec_ok (T : TabOK P E) {call : Call} {yield : Yield} (hc : CallOK P call) (hy : YieldOK P yield) {rnd : Bool} {ro : Option Nat} (hro : rnd = false → ro = none)
    (hdraw : ∀ id ops d c h w fr a e fr' h', drawOk ops d = true → drawRun E call ops d fr h = some (e, fr', h') → HRel c h w → FRel c h w fr a → ∀ n, (Code.region id ops true).wpIn (FR none) n P (EPost c h w e fr' h') a w)
    (hrange : ∀ fnid f params assign body, KOK P ro (rangeK E call rnd fnid f params assign body) (.rangeFunc f params assign body))
    (fnid fuel : Nat) : ∀ cd : Code, (rnd = false → drawsOk E fnid cd = true) → KOK P ro (exec E call yield rnd fnid fuel cd) cd
  | .skip, _ => fun c h w fr a e fr' h' hr r f n => by
    simp only [exec, Option.some.injEq, Prod.mk.injEq] at hr
    obtain ⟨rfl, rfl, rfl⟩ := hr
    exact wpIn_skip ⟨c, Step.refl r, f, rfl⟩
  | .region id ops draw, hk => region_ok T hc hy hro hdraw fnid id ops draw hk
  | .seq x y, hk => seq_ok (exec_ok T hc hy hro hdraw hrange fnid fuel x fun e => (by simpa [drawsOk] using hk e : _ ∧ _).1) (exec_ok T hc hy hro hdraw hrange fnid fuel y fun e => (by simpa [drawsOk] using hk e : _ ∧ _).2)
  | .cond q x y, hk => cond_ok (exec_ok T hc hy hro hdraw hrange fnid fuel x fun e => (by simpa [drawsOk] using hk e : _ ∧ _).1) (exec_ok T hc hy hro hdraw hrange fnid fuel y fun e => (by simpa [drawsOk] using hk e : _ ∧ _).2)
  | .block id x, hk => block_ok (exec_ok T hc hy hro hdraw hrange fnid fuel x hk)
  | .loop x, hk => loop_ok (exec_ok T hc hy hro hdraw hrange fnid fuel x hk) fuel
  | .rangeFunc f params assign body, _ => hrange fnid f params assign body
  | .exit id, _ => fun c h w fr a e fr' h' hr r f n => by
    simp only [exec, Option.some.injEq, Prod.mk.injEq] at hr
    obtain ⟨rfl, rfl, rfl⟩ := hr
    exact wpIn_exit ⟨c, Step.refl r, f, rfl⟩
  | .scope _, _ => KOK.none
  | .label _, _ => KOK.none
  | .goto _, _ => KOK.none
  | .ret, _ => fun c h w fr a e fr' h' hr r f n => by
    simp only [exec, Option.some.injEq, Prod.mk.injEq] at hr
    obtain ⟨rfl, rfl, rfl⟩ := hr
    exact wpIn_ret ⟨c, Step.refl r, f, rfl⟩
  | .refuse _, _ => KOK.none
end Rfx
