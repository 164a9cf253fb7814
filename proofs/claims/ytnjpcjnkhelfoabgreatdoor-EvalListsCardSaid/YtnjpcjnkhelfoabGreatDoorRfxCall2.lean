/- Calls, second part: deferred calls, a function's body, the machine as a whole. -/
import Derived.Test.YtnjpcjnkhelfoabGreatDoorRfxCall
set_option linter.unusedSectionVars false
set_option linter.unusedVariables false
set_option linter.unusedSimpArgs false
set_option linter.unnecessarySimpa false
namespace Rfx
open Go
variable [Val]

section
variable {P : Program} {E : Env} {c c' : Cx} {h h' : AH} {w w' : World}

/-! ### a block that nobody knows is shut -/
theorem Mono.touch (r : HRel c h w) {b : Nat} {x : Obj} {ds : Option (List Deferred)} (hb : w.heap[b]? = some (.deferred ds)) (hf : ¬ c.frz b) : Mono c w c (w.putObj b x) := by
  refine ⟨fun _ _ e => e, fun _ e => e, fun i hi => World.putObj_heap_other (by rintro rfl; exact hf hi), fun i s hs => ?_⟩
  by_cases e : i = b
  · subst e; simp only [World.shape?, hb] at hs; cases hs
  · simpa only [World.shape?, World.putObj_heap_other e] using hs

theorem HRel.touch (r : HRel c h w) {b : Nat} {x : Obj} {ds : Option (List Deferred)} (hb : w.heap[b]? = some (.deferred ds)) (hf : ¬ c.frz b) (hu : ∀ o x, live h o → c.loc o ≠ some (b, x)) : HRel c h (w.putObj b x) := by
  have m := Mono.touch (x := x) r hb hf
  refine HRel.of_get (fun o B ho => ?_) r.inj r.nfz r.fresh (fun o b' y e => by rw [World.putObj_size]; exact r.lt o b' y e) (fun b' e => by rw [World.putObj_size]; exact r.flt b' e) ⟨by rw [World.putObj_size]; exact r.bse.1, r.bse.2⟩
  obtain ⟨b', base, h1, h2⟩ := r.get ho
  exact ⟨b', base, h1, h2.mono m (World.putObj_heap_other (by rintro rfl; exact hu o base (by unfold live; rw [ho]; simp) h1))⟩

theorem Step.touch {c0 : Cx} {h0 : AH} {w0 : World} (s : Step c0 h0 w0 c h w) {b : Nat} {x : Obj} {ds : Option (List Deferred)} (hb : w.heap[b]? = some (.deferred ds)) (hf : ¬ c.frz b) (hu : ∀ o x, live h o → c.loc o ≠ some (b, x))
    (hw : w0.heap.size ≤ b) : Step c0 h0 w0 c h (w.putObj b x) where
  rel := s.rel.touch hb hf hu
  loc := s.loc
  frz := s.frz
  shape := fun i y e => (Mono.touch (x := x) s.rel hb hf).shape i y (s.shape i y e)
  size := by rw [World.putObj_size]; exact s.size
  keep := fun i hi hn => by rw [World.putObj_heap_other (by omega)]; exact s.keep i hi hn
  frz' := s.frz'
  live' := s.live'
  next := s.next
  rsv := s.rsv
  base := s.base

theorem DFRel.touch {b : Nat} {x : Obj} (m : Mono c w c (w.putObj b x)) : ∀ {l : List DF} {ds : List Deferred}, (∀ d ∈ ds, d.target ≠ .collected b) → DFRel c h w l ds → DFRel c h (w.putObj b x) l ds
  | [], _, _, hh => hh
  | .call f args :: l, _, hd, ⟨d, ds', e, ⟨g, p, y, A, B, X, k1, k2, k3, k4, k5⟩, h3⟩ => by
    subst e
    exact ⟨d, ds', rfl, ⟨g, p, y, A, B, X, k1, k2, crels_mono m _ _ k3, crels_mono m _ _ k4, crels_mono m _ _ k5⟩, DFRel.touch m (fun e he => hd e (List.mem_cons_of_mem _ he)) h3⟩
  | .mark :: l, _, hd, ⟨blk, ds', e, h2, h3, h4, h5⟩ => by
    subst e
    have hne : blk ≠ b := fun e => hd _ List.mem_cons_self (by rw [e])
    exact ⟨blk, ds', rfl, by rw [World.putObj_heap_other hne]; exact h2, h3, h4, DFRel.touch m (fun e he => hd e (List.mem_cons_of_mem _ he)) h5⟩

/-! ### another activation -/
def Cx.at (c : Cx) (n : Nat) : Cx := ⟨c.loc, c.frz, c.rsv, n⟩

theorem Mono.at (c : Cx) (w : World) (n : Nat) : Mono c w (c.at n) w := ⟨fun _ _ e => e, fun _ e => e, fun _ _ => rfl, fun _ _ e => e⟩

theorem HRel.at (r : HRel c h w) {n : Nat} (hn : n ≤ w.heap.size) : HRel (c.at n) h w := by
  refine HRel.of_get (fun o B ho => ?_) r.inj r.nfz r.fresh r.lt r.flt ⟨hn, r.bse.2⟩
  obtain ⟨b, base, h1, h2⟩ := r.get ho
  exact ⟨b, base, h1, h2.mono (Mono.at c w n) rfl⟩

theorem Step.at {n : Nat} (r : HRel c h w) (s : Step (c.at n) h w c' h' w') : Step c h w (c'.at c.base) h' w' where
  rel := s.rel.at (Nat.le_trans r.bse.1 s.size)
  loc := s.loc
  frz := s.frz
  shape := s.shape
  size := s.size
  keep := s.keep
  frz' := s.frz'
  live' := s.live'
  next := s.next
  rsv := s.rsv
  base := rfl

structure FnOK (P : Program) (E : Env) : Prop where
  tab : TabOK P E
  con : ∀ f args v, E.con f args = some v → ∀ c h w (A : Array Value) n, HRel c h w → crels c w args A.toList → CallsIn (FR none) n P f A w (CPost c h w (.ret v) h)
  draws : ∀ f fn cd, E.fn f = some fn → fn.body = some cd → drawsOk E f cd = true

theorem exec_all (T : FnOK P E) {call : Call} (hc : CallOK P call) {yield : Yield} (hy : YieldOK P yield) (f fuel : Nat) (cd : Code) (hd : drawsOk E f cd = true) : KOK P none (exec E call yield false f fuel cd) cd :=
  exec_ok T.tab hc hy (fun _ => rfl) (fun id ops d c h w fr a e fr' h' hk hr r f n => drawRun_ok T.tab hc id ops d c h w fr a e fr' h' hk hr r f n) (fun fnid f params assign body => range_ok T.tab hc (fun _ => rfl) fnid f params assign body) f fuel cd fun _ => hd

/-! ### a deferred function that recovers -/
theorem recOp_spec {cd rest : Code} {dst : Option Nat} (e : recOp cd = some (dst, rest)) :
    ∃ id o c, cd = .seq (.region id #[o] false) rest ∧ o.guard = none ∧ o.op = .call c ∧ c.callee = .builtin .recover ∧ o.dst = dst := by
  unfold recOp at e
  split at e
  · rename_i id ops rest'
    split at e
    · rename_i o ho
      split at e
      · rename_i c hg hop
        split at e
        · rename_i hcal
          simp only [Option.some.injEq, Prod.mk.injEq] at e
          obtain ⟨rfl, rfl⟩ := e
          refine ⟨id, o, c, ?_, hg, hop, hcal, rfl⟩
          have : ops = #[o] := by
            apply Array.toList_inj.1
            simpa using ho
          rw [this]
        · cases e
      · cases e
    · cases e
  · cases e

/-- how the frame below stands -/
def MRel (c : Cx) (w : World) : Option AV → FrameMode → Prop
  | none, u => u = .returning
  | some v, u => ∃ cv, u = .panicking [{ v := cv, recovered := false }] ∧ crel c w v cv

theorem dcall_ok (T : FnOK P E) {call : Call} (hc : CallOK P call) {n0 : Nat} {f : Nat} {args : List AV} {p : Option AV} {b : Bool} (e : dcall E call n0 f args p h = some (b, h')) (r : HRel c h w) {A : Array Value} (hA : crels c w args A.toList)
    {u : FrameMode} (hu : MRel c w p u) (n : Nat) {R : Ending → FrameMode → World → Prop} (hR : ∀ c' w' v u', Step (c.at w.heap.size) h w c' h' w' → settle u' = .returning → R (.returned v) u' w') : b = p.isSome ∧ CallsDIn (FR none) n P f A u w R := by
  unfold dcall at e
  cases hf : E.fn f with
  | none => rw [hf] at e; cases e
  | some fn =>
  rw [hf] at e
  dsimp only at e
  cases hb : fn.body with
  | none => rw [hb] at e; cases e
  | some cd =>
  rw [hb] at e
  dsimp only at e
  split at e
  · rename_i dst rest fr hres hrec hfr
    obtain ⟨id, o, cl, rfl, hg, hop, hcal, hdst⟩ := recOp_spec hrec
    subst hdst
    have r1 : HRel (c.at w.heap.size) h w := r.at (Nat.le_refl _)
    have hA1 := crels_mono (Mono.at c w w.heap.size) _ _ hA
    obtain ⟨f0, hd0⟩ := startFr_ok (h := h) hA1 hfr
    have hdr : drawsOk E f rest = true := by
      have := T.draws f fn _ hf hb
      simp only [drawsOk, Bool.and_eq_true] at this
      exact this.2
    -- behind recover
    have tail : ∀ {v cv}, dEnd p.isSome (putA fr o.dst v fun fr => exec E call (fun _ _ _ => none) false f n0 rest fr h) = some (b, h') → crel (c.at w.heap.size) w v cv → b = p.isSome ∧
        ∀ (c₀ : Frame) (cs : List Frame) (u' : FrameMode), settle u' = .returning →
          rest.wpSIn (FR none) n P (bodyPostS P fn c₀ cs R) (({ tmps := A ++ Array.replicate (fn.ntmps - A.size) undef, defers := [] } : Act).put o.dst cv) ({ c₀ with mode := u' } :: cs) w := by
      intro v cv he hv
      have hput : ∃ x, putA fr o.dst v (fun fr => exec E call (fun _ _ _ => none) false f n0 rest fr h) = some x := by
        cases hp : putA fr o.dst v (fun fr => exec E call (fun _ _ _ => none) false f n0 rest fr h) with
        | none => rw [hp] at he; cases he
        | some x => exact ⟨x, rfl⟩
      obtain ⟨x, hp⟩ := hput
      rw [hp] at he
      obtain ⟨fr1, k1, k2, _⟩ := f0.put hv hp
      obtain ⟨e1, fr2, h2⟩ := x
      have run := exec_all T hc (yield := fun _ _ _ => none) (fun _ _ _ _ _ e => by cases e) f n0 rest hdr _ _ _ _ _ _ _ _ k1 r1 k2 n
      have fin : e1 = .normal ∨ e1 = .ret := by
        cases e1 with
        | normal => exact .inl rfl
        | ret => exact .inr rfl
        | _ => cases he
      have hfr2 : fr2.dfs = [] ∧ b = p.isSome ∧ h2 = h' := by
        rcases fin with rfl | rfl <;>
        · simp only [dEnd] at he
          cases hdf : fr2.dfs with
          | nil => rw [hdf] at he; simp only [Option.some.injEq, Prod.mk.injEq] at he; exact ⟨rfl, he.1.symm, he.2⟩
          | cons _ _ => rw [hdf] at he; cases he
      obtain ⟨g1, g2, rfl⟩ := hfr2
      refine ⟨g2, fun c₀ cs u' hu' => wpSIn_of_wpIn rfl (wpIn_mono run fun ex a' w' hp => ?_)⟩
      obtain ⟨c', s', f', hx⟩ := hp
      have hdf : a'.defers = [] := by have := f'.dfs; rw [g1] at this; exact this
      have hres' : fn.results = #[] := by
        apply Array.toList_inj.1
        simpa using hres
      have key : a'.defers = [] ∧ ∃ u'', ({ c₀ with mode := u' } :: cs : List Frame) = { c₀ with mode := u'' } :: cs ∧ ∃ v, (results fn a'.tmps).run P w' = .ok v w' ∧ R (.returned v) u'' w' :=
        ⟨hdf, u', rfl, _, results_none hres' _ _ _, hR c' w' _ u' s' hu'⟩
      rcases fin with rfl | rfl
      · simp only [XRel] at hx; subst hx; exact key
      · simp only [XRel] at hx; subst hx; exact key
    have hfuncs := (T.tab.fn f fn hf).1
    have hexec : ∀ a : Act, (execOp a.eval o).run P w = .ok .recover w := fun a => by
      simp [execOp, hop, resolve, hcal, invoke, Go.builtin]
    have first : ∀ (Q : Exit → Act → List Frame → World → Prop) (a : Act) (cs : List Frame), (match recoverD cs with | some (v, cs') => Q .normal (a.put o.dst v) cs' w | none => Q .normal (a.put o.dst .nilIface) cs w) →
        (Code.region id #[o] false).wpSIn (FR none) n P Q a cs w := by
      intro Q a cs hq
      refine wpSIn_region ?_
      have hr : List.range (#[o] : Array Oper).size = [0] := rfl
      rw [hr]
      simp only [wpOpsSIn, List.getElem?_toArray, List.getElem?_cons_zero]
      refine ⟨fun _ _ => trivial, ?_⟩
      have hw : Region.wanted o (yielded #[o] a.tmps) = true := by simp only [Region.wanted, hg]
      rw [hw, hexec]
      simp only [if_true]
      cases hrd : recoverD cs with
      | none => rw [hrd] at hq; exact hq
      | some x => rw [hrd] at hq; exact hq
    cases p with
    | none =>
      simp only [MRel] at hu
      obtain ⟨g1, g2⟩ := tail e (cv := .nilIface) (by simp [crel])
      refine ⟨g1, callsDIn_of_wpSIn hfuncs hb trivial fun c₀ cs hm => wpSIn_seq (first _ _ _ ?_)⟩
      have hrd : recoverD (c₀ :: cs) = none := by simp [recoverD, hm, hu]
      rw [hrd]
      have hc0 : ({ c₀ with mode := .returning } : Frame) = c₀ := by rw [← hu, ← hm]
      have := g2 c₀ cs .returning rfl
      rw [hc0] at this
      exact this
    | some v =>
      obtain ⟨cv, hu, hv⟩ := hu
      obtain ⟨g1, g2⟩ := tail e (cv := cv) (crel_mono (Mono.at c w w.heap.size) _ _ hv)
      refine ⟨g1, callsDIn_of_wpSIn hfuncs hb trivial fun c₀ cs hm => wpSIn_seq (first _ _ _ ?_)⟩
      have hrd : recoverD (c₀ :: cs) = some (cv, { c₀ with mode := .panicking [{ v := cv, recovered := true }] } :: cs) := by simp [recoverD, hm, hu]
      rw [hrd]
      exact g2 c₀ cs (.panicking [{ v := cv, recovered := true }]) rfl
  · cases e
end
end Rfx
