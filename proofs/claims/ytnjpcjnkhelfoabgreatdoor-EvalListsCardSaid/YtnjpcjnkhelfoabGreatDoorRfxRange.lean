/- Range over a function: the statement; a round. -/
import Derived.Test.YtnjpcjnkhelfoabGreatDoorRfxDraw3
import Derived.RangeFuncRecord
set_option linter.unusedSectionVars false
set_option linter.unusedVariables false
set_option linter.unusedSimpArgs false
set_option linter.unnecessarySimpa false
namespace Rfx
open Go
variable [Val]

section
variable {P : Program} {E : Env} {c c' : Cx} {h h' : AH} {w w' : World}

/-- a block that nobody knows -/
theorem Step.push (r : HRel c h w) (o : Obj) : Step c h w c h { w with heap := w.heap.push o } := by
  have hm : Mono c w c { w with heap := w.heap.push o } := by
    refine ⟨fun _ _ e => e, fun _ e => e, fun b hb => heap_push_get (r.flt b hb), fun b s hs => ?_⟩
    simp only [World.shape?] at hs ⊢
    by_cases hb : b < w.heap.size
    · rw [heap_push_get hb]; exact hs
    · rw [Array.getElem?_eq_none (by omega)] at hs; cases hs
  refine ⟨HRel.of_get (fun o' B ho => ?_) r.inj r.nfz r.fresh (fun o' b x e => ?_) (fun b hb => ?_) ?_, fun _ _ e => e, fun _ e => e, hm.shape, by simp, fun b hb _ => heap_push_get hb, fun _ e => .inl e, fun o b x l e => .inl ⟨o, x, l, e⟩, Nat.le_refl _, fun _ e => ⟨e, rfl⟩, rfl⟩
  · obtain ⟨b, base, h1, h2⟩ := r.get ho
    exact ⟨b, base, h1, h2.mono hm (heap_push_get (r.lt _ _ _ h1))⟩
  · have := r.lt o' b x e; simp; omega
  · have := r.flt b hb; simp; omega
  · exact ⟨by have := r.bse.1; simp; omega, r.bse.2⟩

theorem DFRel.lt : ∀ {l : List DF} {ds : List Deferred}, DFRel c h w l ds → ∀ d ∈ ds, ∀ b, d.target = .collected b → b < w.heap.size
  | [], _, hh => by subst hh; intro d hd; cases hd
  | .call f args :: l, _, ⟨d, ds', rfl, ⟨g, x, y, A, B, X, k1, k2, k3, k4, k5⟩, h3⟩ => fun e he b hb => by
    rcases List.mem_cons.1 he with rfl | he
    · rw [k2] at hb; cases hb
    · exact DFRel.lt h3 e he b hb
  | .mark :: l, _, ⟨blk, ds', rfl, h2, h3, h4, h5⟩ => fun e he b hb => by
    rcases List.mem_cons.1 he with rfl | he
    · cases hb; exact (Array.getElem?_eq_some_iff.1 h2).1
    · exact DFRel.lt h5 e he b hb

/-- a loop's record is written -/
theorem Step.loop (r : HRel c h w) {o b : Nat} (hl : c.loc o = some (b, 0)) {fi : Nat} {tm : Tr AV} {n : Nat} {ps : List Nat} {a bd : Code} {st st' : Nat} {pend pend' : Option Nat}
    (hg : h.bs.get o = some (.loop fi tm n ps a bd st pend)) {L : Loop} (hL : w.heap[b]? = some (.loop L)) (hst : L.state = stOf st) {s : LoopState} (hs : s = stOf st') {p : Option Code} (hp : p = pendOf pend') :
    Step c h w c ⟨h.next, h.bs.set o (.loop fi tm n ps a bd st' pend')⟩ (w.putObj b (.loop { L with state := s, pending := p })) := by
  obtain ⟨blk, L', e1, e2, e3, e4, e5, e6, e7, e8, e9⟩ := r.loops o fi tm n ps a bd st pend hg
  rw [hl] at e1
  cases e1
  rw [hL] at e2
  cases e2
  have hlt := r.lt o b 0 hl
  refine Step.write r (base := 0) (by unfold live; rw [hg]; simp) hl ⟨rfl, rfl⟩ World.putObj_size (fun i hi => World.putObj_heap_other hi) (fun s' hs' => ?_) fun m => ?_
  · simp only [World.shape?, hL] at hs'
    cases hs'
  · exact ⟨rfl, _, World.putObj_heap_same hlt, e3.mono m, e4, e5, e6, e7, hs, hp⟩

theorem loop_get (r : HRel c h w) {o b : Nat} (hl : c.loc o = some (b, 0)) {fi : Nat} {tm : Tr AV} {n : Nat} {ps : List Nat} {a bd : Code} {st : Nat} {pend : Option Nat}
    (hg : h.bs.get o = some (.loop fi tm n ps a bd st pend)) : ∃ L, w.heap[b]? = some (.loop L) ∧ TRel c w tm L.tmps ∧ n ≤ L.tmps.size ∧ L.params.toList = ps ∧ L.assign = a ∧ L.body = bd ∧ L.state = stOf st ∧ L.pending = pendOf pend := by
  obtain ⟨blk, L, e1, e2⟩ := r.loops o fi tm n ps a bd st pend hg
  rw [hl] at e1
  cases e1
  exact ⟨L, e2⟩

theorem stOf_busy {st : Nat} (h : stOf st = .busy) : st = 1 := by
  cases st with
  | zero => cases h
  | succ n =>
    cases n with
    | zero => rfl
    | succ m => cases m <;> cases h

theorem range_ok (T : TabOK P E) {call : Call} (hc : CallOK P call) {rnd : Bool} {ro : Option Nat} (hro : rnd = false → ro = none) (fnid : Nat) (f : Operand) (params : Array Tmp) (assign body : Code) :
    KOK P ro (rangeK E call rnd fnid f params assign body) (.rangeFunc f params assign body) := by
  intro c h w fr a e fr' h' hr r fR n
  unfold rangeK at hr
  cases rnd with
  | true => cases hr
  | false =>
  have hro' := hro rfl
  subst hro'
  simp only [cond_false] at hr
  cases hca : callA E (opnd fr.tm f) [.yld h.next] (h.put h.next (.loop fnid fr.tm fr.n params.toList assign body 0 none)) with
  | none => rw [hca] at hr; cases hr
  | some x =>
  obtain ⟨an, h2⟩ := x
  cases an with
  | enter g args =>
    rw [hca] at hr
    dsimp only at hr
    cases hcall : call g args h2 with
    | none => rw [hcall] at hr; cases hr
    | some rr =>
    obtain ⟨res, h3⟩ := rr
    rw [hcall] at hr
    refine wpIn_rangeFunc fun fn _ => ?_
    -- the two blocks
    let w0 : World := { w with heap := w.heap.push (.deferred (some [])) }
    let L : Loop := { state := .ready, pending := none, fn, tmps := a.tmps, params := params, assign, body, defers := w.heap.size }
    let w1 : World := { w0 with heap := w0.heap.push (.loop L) }
    have hsz : w0.heap.size = w.heap.size + 1 := by simp [w0]
    have s0 : Step c h w c h w0 := Step.push r _
    have hfr := s0.rel.fresh h.next (Nat.le_refl _)
    have m1 := Mono.push s0.rel hfr.1 (.loop L) 0
    have f0 : FRel c h w0 fr a := fR.step r s0
    have s1 : Step c h w0 (c.add h.next w0.heap.size 0) (h.put h.next (.loop fnid fr.tm fr.n params.toList assign body 0 none)) w1 :=
      Step.alloc s0.rel hfr.1 hfr.2 ⟨rfl, L, new_get _ _, f0.tm.mono m1, f0.n, rfl, rfl, rfl, rfl, rfl⟩
    have f1 : FRel (c.add h.next w0.heap.size 0) (h.put h.next (.loop fnid fr.tm fr.n params.toList assign body 0 none)) w1 { fr with dfs := .mark :: fr.dfs }
        { a with defers := [{ target := .collected w.heap.size, args := #[] }] ++ a.defers } := by
      have ff := f0.step s0.rel s1
      refine ⟨ff.tm, ff.n, w.heap.size, a.defers, rfl, ?_, fun o x hl ho => ?_, ⟨fun hf => ?_, r.bse.1, fun d hd ht => ?_⟩, ff.dfs⟩
      · have : w0.heap[w.heap.size]? = some (.deferred (some [])) := new_get _ _
        rw [← this]
        exact heap_push_get (by omega)
      · simp only [Cx.add] at ho
        by_cases e : o = h.next
        · rw [if_pos e] at ho
          obtain ⟨e1, _⟩ := Prod.mk.inj (Option.some.inj ho)
          omega
        · rw [if_neg e] at ho
          have := r.lt o _ x ho
          omega
      · have := r.flt _ hf; omega
      · have := fR.dfs.lt d hd _ ht; omega
    obtain ⟨c2, w2, s2, A, hrun, hA⟩ := callA_ok T s1.rel (f1.tm.opnd f) (args := [.yld h.next]) (X := #[.func (.yield (w.heap.size + 1)) #[] #[]])
      (by simp only [crels, crel]; exact ⟨_, _, rfl, ⟨w.heap.size + 1, by rw [add_loc, hsz], rfl⟩, rfl⟩) hca
    rw [Sem.run_bind] at hrun
    cases hv : (Deferred.ofValue (({ a with defers := [{ target := .collected w.heap.size, args := #[] }] ++ a.defers } : Act).eval f) #[.func (.yield (w.heap.size + 1)) #[] #[]]).run P w1 with
    | halt _ _ => rw [hv] at hrun; simp [Result.andThen] at hrun
    | ok dd w1' =>
    rw [hv] at hrun
    simp only [Result.andThen_ok] at hrun
    refine ⟨w.heap.size + 1, [{ target := .collected w.heap.size, args := #[] }], w1, dd, w1', g, A, w2, ?_, ?_, fun _ _ => trivial, hrun, (fun hh => by cases hh), ?_⟩
    · exact run_enterLoop_outer fn a.tmps params assign body
    · have : a.eval f = ({ a with defers := [{ target := .collected w.heap.size, args := #[] }] ++ a.defers } : Act).eval f := rfl
      rw [← this] at hv
      simpa [resolve, rangeCall, Act.eval] using hv
    · have hcc : CallsIn (FR none) (n - 1) P g A w2 (CPost c2 h2 w2 res h3) := hc g args h2 res h3 hcall c2 w2 A s2.rel hA (n - 1)
      refine hcc.mono fun en w3 hpost => ?_
      obtain ⟨c3, s3, hpost⟩ := hpost
      have sAll := s0.trans (s1.trans (s2.trans s3))
      have f3 := (f1.step s1.rel s2).step s2.rel s3
      cases res with
      | panic v =>
        obtain ⟨cv, rfl, hv⟩ := hpost
        simp only [rangeEnd, Option.some.injEq, Prod.mk.injEq] at hr
        obtain ⟨rfl, rfl, rfl⟩ := hr
        exact ⟨c3, sAll, f3, cv, rfl, hv⟩
      | ret v =>
        obtain ⟨cv, rfl, hv⟩ := hpost
        simp only [rangeEnd] at hr
        have hl3 : c3.loc h.next = some (w.heap.size + 1, 0) := s3.loc _ _ (s2.loc _ _ (by rw [add_loc, hsz]))
        cases hg : h3.bs.get h.next with
        | none => rw [hg] at hr; cases hr
        | some B =>
        rw [hg] at hr
        cases B with
        | loop fi tm m ps aa bb st pend =>
          dsimp only at hr
          cases hst : Nat.beq st 1 with
          | true => rw [hst] at hr; cases hr
          | false =>
          rw [hst] at hr
          simp only [cond_false] at hr
          obtain ⟨L3, g1, g2, g3, g4, g5, g6, g7, g8⟩ := loop_get s3.rel hl3 hg
          have hb : L3.state ≠ .busy := fun hbusy => by
            rw [g7] at hbusy
            rw [stOf_busy hbusy] at hst; cases hst
          have hend : (Instr.endLoop (w.heap.size + 1)).run P w3 = .ok (pendOf pend) (w3.putObj (w.heap.size + 1) (.loop { L3 with state := .exhausted })) :=
            (run_endLoop g1 hb).trans (congrArg (fun p => Result.ok p _) g8)
          refine ⟨pendOf pend, _, hend, ?_⟩
          have s4 : Step c3 h3 w3 c3 ⟨h3.next, h3.bs.set h.next (.loop fi tm m ps aa bb 3 pend)⟩ (w3.putObj (w.heap.size + 1) (.loop { L3 with state := .exhausted })) := by
            have := Step.loop s3.rel hl3 hg g1 g7 (st' := 3) (s := .exhausted) rfl (p := L3.pending) (pend' := pend) g8
            exact this
          have f4 := f3.step s3.rel s4
          cases pend with
          | none =>
            simp only [Option.some.injEq, Prod.mk.injEq] at hr
            obtain ⟨rfl, rfl, rfl⟩ := hr
            exact ⟨c3, sAll.trans s4, f4, rfl⟩
          | some k =>
            cases k with
            | zero =>
              simp only [Option.some.injEq, Prod.mk.injEq] at hr
              obtain ⟨rfl, rfl, rfl⟩ := hr
              exact wpIn_ret ⟨c3, sAll.trans s4, f4, rfl⟩
            | succ k =>
              simp only [Option.some.injEq, Prod.mk.injEq] at hr
              obtain ⟨rfl, rfl, rfl⟩ := hr
              exact wpIn_exit ⟨c3, sAll.trans s4, f4, rfl⟩
        | _ => cases hr
  | _ => rw [hca] at hr; cases hr

/-! ### a round -/
theorem setAll_ok : ∀ {ps : List Nat} {as : List AV} {tm tm' : Tr AV} {m : Nat} {tmps : Array Value} {vs : List Value}, setAll tm m ps as = some tm' → TRel c w tm tmps → m ≤ tmps.size → crels c w as vs →
    ps.length = vs.length ∧ TRel c w tm' ((ps.zip vs).foldl (fun tmps (t, a) => tmps.setIfInBounds t a) tmps) ∧ m ≤ ((ps.zip vs).foldl (fun tmps (t, a) => tmps.setIfInBounds t a) tmps).size
  | [], [], tm, tm', m, tmps, vs, e, ht, hm, hr => by
    simp only [setAll, Option.some.injEq] at e
    subst e
    simp only [crels] at hr
    subst hr
    exact ⟨rfl, ht, hm⟩
  | p :: ps, a :: as, tm, tm', m, tmps, vs, e, ht, hm, hr => by
    simp only [setAll] at e
    obtain ⟨e1, e2⟩ := cond_some e
    simp only [crels] at hr
    obtain ⟨v, vs', rfl, h1, h2⟩ := hr
    have hp : p < tmps.size := Nat.lt_of_lt_of_le (blt_t e1) hm
    obtain ⟨k1, k2, k3⟩ := setAll_ok (tmps := tmps.setIfInBounds p v) e2 (ht.put hp h1) (by simpa using hm) h2
    exact ⟨by simp [k1], k2, k3⟩
  | [], _ :: _, _, _, _, _, _, e, _, _, _ => by cases e
  | _ :: _, [], _, _, _, _, _, e, _, _, _ => by cases e

theorem yield_ok (T : TabOK P E) {call : Call} (hc : CallOK P call) (n0 : Nat) : YieldOK P (yieldA E call n0) := by
  intro l args h v h' hy c w A b r hl hA
  unfold yieldA at hy
  cases hg : h.bs.get l with
  | none => rw [hg] at hy; cases hy
  | some B =>
  rw [hg] at hy
  cases B with
  | loop fi tm m ps assign body st pend =>
    dsimp only at hy
    cases hs : setAll tm m ps args with
    | none => rw [hs] at hy; cases hy
    | some tm' =>
    rw [hs] at hy
    dsimp only at hy
    obtain ⟨L, g1, g2, g3, g4, g5, g6, g7, g8⟩ := loop_get r hl hg
    obtain ⟨k1, k2, k3⟩ := setAll_ok hs g2 g3 hA
    have hsz : A.size = L.params.size := by
      rw [← Array.length_toList, ← k1, ← g4, Array.length_toList]
    have hfold : (L.params.zip A).foldl (fun tmps (t, a) => tmps.setIfInBounds t a) L.tmps = (ps.zip A.toList).foldl (fun tmps (t, a) => tmps.setIfInBounds t a) L.tmps := by
      rw [← g4, ← Array.foldl_toList, Array.toList_zip]
    refine ⟨L.fn, _, L.assign, L.body, run_yield g1 hsz, fun n ro => ?_⟩
    rw [g5, g6]
    refine roundIn_of_wpIn trivial ?_
    have hro : (true = false → some b = (none : Option Nat)) := fun h => by cases h
    have hyn : YieldOK P (fun _ _ _ => none) := fun _ _ _ _ _ e => by cases e
    have hdraw : ∀ id ops d c h w fr a e fr' h', drawOk ops d = true → drawRun E call ops d fr h = some (e, fr', h') → HRel c h w → FRel c h w fr a → ∀ n, (Code.region id ops true).wpIn (FR none) n P (EPost c h w e fr' h') a w :=
      fun id ops d c h w fr a e fr' h' hk hr r f n => drawRun_ok T hc id ops d c h w fr a e fr' h' hk hr r f n
    have hrange : ∀ fnid f params assign body, KOK P (some b) (rangeK E call true fnid f params assign body) (.rangeFunc f params assign body) := fun fnid f params assign body => range_ok T hc hro fnid f params assign body
    have f0 : FRel c h w ⟨tm', m, []⟩ { tmps := (L.params.zip A).foldl (fun tmps (t, a) => tmps.setIfInBounds t a) L.tmps, defers := [] } := by
      rw [hfold]
      exact ⟨k2, k3, rfl⟩
    cases hx : exec E call (fun _ _ _ => none) true fi n0 assign ⟨tm', m, []⟩ h with
    | none => rw [hx] at hy; cases hy
    | some x1 =>
    obtain ⟨e1, fr1, h1⟩ := x1
    rw [hx] at hy
    cases e1 with
    | normal =>
      simp only [yNormal, yBody] at hy
      refine wpIn_mono (exec_ok T hc hyn hro hdraw hrange fi n0 assign (fun h => by cases h) c h w _ _ _ _ _ hx r f0 n) fun ex a1 w1 hp => ?_
      obtain ⟨c1, s1, f1, hxx⟩ := hp
      simp only [XRel] at hxx
      subst hxx
      have hl1 := s1.loc _ _ hl
      cases hg1 : h1.bs.get l with
      | none => rw [hg1] at hy; cases hy
      | some B1 =>
      rw [hg1] at hy
      cases B1 with
      | loop fi' tm1 m1 ps1 as1 bd1 st1 pend1 =>
        dsimp only at hy
        cases hst : Nat.beq st1 0 with
        | false => rw [hst] at hy; cases hy
        | true =>
        rw [hst] at hy
        simp only [cond_true] at hy
        have hst' := beq_t hst
        subst hst'
        obtain ⟨L1, q1, q2, q3, q4, q5, q6, q7, q8⟩ := loop_get s1.rel hl1 hg1
        have s2 : Step c1 h1 w1 c1 ⟨h1.next, h1.bs.set l (.loop fi' tm1 m1 ps1 as1 bd1 1 pend1)⟩ (w1.putObj b (.loop { L1 with state := .busy })) :=
          Step.loop s1.rel hl1 hg1 q1 q7 (st' := 1) (s := .busy) rfl (p := L1.pending) (pend' := pend1) q8
        refine ⟨_, run_beginRound q1 q7, ?_⟩
        have f2 := f1.step s1.rel s2
        cases hx2 : exec E call (fun _ _ _ => none) true fi n0 body fr1 ⟨h1.next, h1.bs.set l (.loop fi' tm1 m1 ps1 as1 bd1 1 pend1)⟩ with
        | none => rw [hx2] at hy; cases hy
        | some x3 =>
        obtain ⟨e3, fr3, h3⟩ := x3
        rw [hx2] at hy
        refine wpIn_mono (exec_ok T hc hyn hro hdraw hrange fi n0 body (fun h => by cases h) c1 _ _ _ _ _ _ _ hx2 s2.rel f2 n) fun ex a3 w3 hp => ?_
        obtain ⟨c3, s3, f3, hxx⟩ := hp
        have hl3 := s3.loc _ _ hl1
        simp only [yEnd] at hy
        cases hg3 : h3.bs.get l with
        | none => rw [hg3] at hy; cases hy
        | some B3 =>
        rw [hg3] at hy
        cases B3 with
        | loop fi3 tm3 m3 ps3 as3 bd3 st3 pend3 =>
          dsimp only at hy
          obtain ⟨hs3, hy⟩ := cond_some hy
          obtain ⟨L3, z1, z2, z3, z4, z5, z6, z7, z8⟩ := loop_get s3.rel hl3 hg3
          cases e3 with
          | normal =>
            simp only [Option.some.injEq, Prod.mk.injEq] at hy
            obtain ⟨rfl, rfl⟩ := hy
            simp only [XRel] at hxx
            subst hxx
            exact ⟨_, _, run_endRound none z1, c3, .bool true, rfl, s1.trans (s2.trans (s3.trans (Step.loop s3.rel hl3 hg3 z1 z7 (st' := 0) (s := .ready) rfl (p := none) (pend' := none) rfl))), by simp [crel]⟩
          | ret =>
            simp only [Option.some.injEq, Prod.mk.injEq] at hy
            obtain ⟨rfl, rfl⟩ := hy
            simp only [XRel] at hxx
            subst hxx
            exact ⟨_, _, run_endRound (some .ret) z1, c3, .bool false, rfl, s1.trans (s2.trans (s3.trans (Step.loop s3.rel hl3 hg3 z1 z7 (st' := 2) (s := .done) rfl (p := some .ret) (pend' := some 0) rfl))), by simp [crel]⟩
          | exit i =>
            simp only [Option.some.injEq, Prod.mk.injEq] at hy
            obtain ⟨rfl, rfl⟩ := hy
            simp only [XRel] at hxx
            subst hxx
            exact ⟨_, _, run_endRound (some (.exit i)) z1, c3, .bool false, rfl, s1.trans (s2.trans (s3.trans (Step.loop s3.rel hl3 hg3 z1 z7 (st' := 2) (s := .done) rfl (p := some (.exit i)) (pend' := some (i + 1)) rfl))), by simp [crel]⟩
          | panic v => cases hy
        | _ => cases hy
      | _ => cases hy
    | _ => cases hy
  | _ => cases hy
end
end Rfx
