/- Code: what the abstract machine's run of a piece of code gives, the model's gives. Regions in the order of the text; sequences, tests, loops. -/
import Derived.Test.YtnjpcjnkhelfoabGreatDoorRfxOpA
import Derived.RangeFuncLeaves
import Derived.RecoverIn
import Derived.LoopNIn
import Derived.OrdersIn
set_option linter.unusedSectionVars false
set_option linter.unusedVariables false
set_option linter.unusedSimpArgs false
set_option linter.unnecessarySimpa false
namespace Rfx
open Go
variable [Val]

def FR (ro : Option Nat) : Fence := { fn := fun _ => True, depth := none, alive := false, round := ro }

variable {P : Program} {E : Env} {c c' : Cx} {h h' : AH} {w w' : World}

/-! ### frames -/
def DFRel (c : Cx) (h : AH) (w : World) : List DF → List Deferred → Prop
  | [], ds => ds = []
  | .call f args :: r, ds => ∃ d ds', ds = d :: ds' ∧ DRel c w f args d ∧ DFRel c h w r ds'
  | .mark :: r, ds => ∃ blk ds', ds = { target := .collected blk, args := #[] } :: ds' ∧ w.heap[blk]? = some (.deferred (some [])) ∧ (∀ o x, live h o → c.loc o ≠ some (blk, x)) ∧ (¬ c.frz blk ∧ c.base ≤ blk ∧ ∀ d ∈ ds', d.target ≠ .collected blk) ∧ DFRel c h w r ds'

structure FRel (c : Cx) (h : AH) (w : World) (fr : Fr) (a : Act) : Prop where
  tm : TRel c w fr.tm a.tmps
  n : fr.n ≤ a.tmps.size
  dfs : DFRel c h w fr.dfs a.defers

theorem DFRel.step (r : HRel c h w) (s : Step c h w c' h' w') : ∀ {l : List DF} {ds : List Deferred}, DFRel c h w l ds → DFRel c' h' w' l ds
  | [], _, hh => hh
  | .call f args :: l, _, ⟨d, ds', h1, ⟨g, x, y, A, B, X, k1, k2, k3, k4, k5⟩, h3⟩ =>
    ⟨d, ds', h1, ⟨g, x, y, A, B, X, k1, k2, crels_mono (s.mono r) _ _ k3, crels_mono (s.mono r) _ _ k4, crels_mono (s.mono r) _ _ k5⟩, DFRel.step r s h3⟩
  | .mark :: l, _, ⟨blk, ds', h1, h2, h3, ⟨q1, q2, q3⟩, h4⟩ => by
    have hlt : blk < w.heap.size := (Array.getElem?_eq_some_iff.1 h2).1
    refine ⟨blk, ds', h1, (s.keep blk hlt h3).trans h2, fun o x hl e => ?_, ⟨fun hf => ?_, by rw [s.base]; exact q2, q3⟩, DFRel.step r s h4⟩
    rotate_left
    · rcases s.frz' blk hf with h | ⟨o', x', l', e'⟩ | hge
      · exact q1 h
      · exact h3 o' x' l' e'
      · omega
    rcases s.live' o blk x hl e with ⟨o', x', l', e'⟩ | hge
    · exact h3 o' x' l' e'
    · omega

theorem FRel.step (r : HRel c h w) (s : Step c h w c' h' w') {fr : Fr} {a : Act} (f : FRel c h w fr a) : FRel c' h' w' fr a :=
  ⟨f.tm.mono (s.mono r), f.n, f.dfs.step r s⟩

theorem TRel.opnd {tm : Tr AV} {a : Act} (ht : TRel c w tm a.tmps) (x : Operand) : crel c w (opnd tm x) (a.eval x) := by
  cases x with
  | tmp t => exact ht t
  | const v => exact toAV_rel c w v
  | global g => exact crel_undef _
  | func f =>
    simp only [Rfx.opnd, Act.eval, crel]
    exact ⟨#[], #[], rfl, crels_nil, crels_nil⟩

theorem TRel.put {tm : Tr AV} {tmps : Array Value} (ht : TRel c w tm tmps) {d : Nat} (hd : d < tmps.size) {v : AV} {cv : Value} (hv : crel c w v cv) : TRel c w (tm.set d v) (tmps.setIfInBounds d cv) := fun t => by
  by_cases e : d = t
  · subst e
    rw [Tr.get_set_same]
    simpa [hd] using hv
  · rw [Tr.get_set_ne _ _ e]
    have := ht t
    simp only [Array.getD_eq_getD_getElem?] at this ⊢
    rwa [Array.getElem?_setIfInBounds, if_neg e]

theorem FRel.put {fr : Fr} {a : Act} (f : FRel c h w fr a) {dst : Option Nat} {v : AV} {cv : Value} (hv : crel c w v cv) {k : Fr → Out} {r : AE × Fr × AH} (e : putA fr dst v k = some r) :
    ∃ fr', k fr' = some r ∧ FRel c h w fr' (a.put dst cv) ∧ fr'.dfs = fr.dfs := by
  cases dst with
  | none => exact ⟨fr, e, f, rfl⟩
  | some d =>
    replace e : (bif Nat.blt d fr.n then k { fr with tm := fr.tm.set d v } else none) = some r := by
      have hx : putA fr (some d) v k = (bif Nat.blt d fr.n then k { fr with tm := fr.tm.set d v } else none) := by
        show _ = cond (Nat.ble (Nat.succ d) fr.n) _ _
        unfold putA
        cases hb : Nat.ble (Nat.succ d) fr.n <;> simp [hb]
      rw [← hx]; exact e
    obtain ⟨e1, e2⟩ := cond_some e
    have hd : d < a.tmps.size := Nat.lt_of_lt_of_le (blt_t e1) f.n
    refine ⟨_, e2, ⟨f.tm.put hd hv, ?_, f.dfs⟩, rfl⟩
    simpa [Act.put] using f.n

theorem wanted_ok {fr : Fr} {a : Act} (ht : TRel c w fr.tm a.tmps) {ops : Array Oper} {o : Oper} {b : Bool} (e : wantedA o ops.toList fr.tm = some b) : Region.wanted o (yielded ops a.tmps) = b := by
  unfold wantedA at e
  unfold Region.wanted
  split at e
  · rename_i hg; rw [hg]; simpa using e
  · rename_i j want hg
    rw [hg]
    dsimp only
    obtain ⟨e1, e2⟩ := cond_some e
    simp only [Option.some.injEq] at e2
    unfold guardKnown at e1
    unfold guardA at e2
    unfold yielded
    cases hp : ops[j]? with
    | none =>
      have : ops.toList[j]? = none := by simpa using hp
      rw [this] at e1; cases e1
    | some p =>
      have hp' : ops.toList[j]? = some p := by simpa using hp
      rw [hp'] at e1 e2
      dsimp only at e1 e2
      simp only [Option.bind_some]
      cases hd : p.dst with
      | none => rw [hd] at e1; cases e1
      | some d =>
        rw [hd] at e1 e2
        dsimp only at e1 e2
        simp only [Option.bind_some]
        have hT := ht d
        cases hg' : fr.tm.get d with
        | none => rw [hg'] at e1; cases e1
        | some v =>
          rw [hg'] at e1 e2 hT
          simp only [Option.getD_some, Array.getD_eq_getD_getElem?] at hT
          cases v with
          | bool x =>
            simp only [crel] at hT
            cases hq : a.tmps[d]? with
            | none => rw [hq] at hT; simp [undef] at hT
            | some u =>
              rw [hq] at hT
              simp only [Option.getD_some] at hT
              subst hT
              dsimp only at e2 ⊢
              rw [← e2]
              cases x <;> cases want <;> rfl
          | tup l =>
            cases l with
            | cons _ _ => cases e1
            | nil =>
              simp only [crel] at hT
              obtain ⟨A, hA, h2⟩ := hT
              dsimp only at e2
              rw [← e2]
              cases hq : a.tmps[d]? with
              | none => cases want <;> rfl
              | some u =>
                rw [hq] at hA
                simp only [Option.getD_some] at hA
                subst hA
                cases want <;> rfl
          | _ => cases e1

/-! ### what is asked of the pieces -/
def XRel (c : Cx) (w : World) : AE → Exit → Prop
  | .normal, e => e = .normal
  | .exit id, e => e = .exit id
  | .ret, e => e = .ret
  | .panic v, e => ∃ cv, e = .panic [{ v := cv, recovered := false }] ∧ crel c w v cv

def EPost (c : Cx) (h : AH) (w : World) (e : AE) (fr' : Fr) (h' : AH) : Exit → Act → World → Prop := fun ex a' w' =>
  ∃ c', Step c h w c' h' w' ∧ FRel c' h' w' fr' a' ∧ XRel c' w' e ex

def KOK (P : Program) (ro : Option Nat) (k : K) (cd : Code) : Prop :=
  ∀ c h w fr a e fr' h', k fr h = some (e, fr', h') → HRel c h w → FRel c h w fr a → ∀ n, cd.wpIn (FR ro) n P (EPost c h w e fr' h') a w

def CPost (c : Cx) (h : AH) (w : World) (r : Res) (h' : AH) : Ending → World → Prop := fun e w' =>
  ∃ c', Step c h w c' h' w' ∧ match r with
    | .ret v => ∃ cv, e = .returned cv ∧ crel c' w' v cv
    | .panic v => ∃ cv, e = .panicked [{ v := cv, recovered := false }] ∧ crel c' w' v cv

def CallOK (P : Program) (call : Call) : Prop :=
  ∀ f args h r h', call f args h = some (r, h') → ∀ c w (A : Array Value), HRel c h w → crels c w args A.toList → ∀ n, CallsIn (FR none) n P f A w (CPost c h w r h')

def YieldOK (P : Program) (yield : Yield) : Prop :=
  ∀ l args h v h', yield l args h = some (v, h') → ∀ c w (A : Array Value) b, HRel c h w → c.loc l = some (b, 0) → crels c w args A.toList →
    ∃ fn tmps assign body, (Instr.yield b A).run P w = .ok (.round b fn tmps assign body) w ∧
      ∀ n ro, RoundIn (FR ro) n P b fn tmps assign body w fun e w' => ∃ c' cv, e = .returned cv ∧ Step c h w c' h' w' ∧ crel c' w' v cv

theorem EPost.trans {c0 : Cx} {h0 : AH} {w0 : World} (s : Step c0 h0 w0 c h w) {e : AE} {fr' : Fr} {h' : AH} {ex : Exit} {a' : Act} {w' : World} (p : EPost c h w e fr' h' ex a' w') : EPost c0 h0 w0 e fr' h' ex a' w' :=
  let ⟨c', s', f, x⟩ := p; ⟨c', s.trans s', f, x⟩

/-! ### operations in the order of the text -/
theorem semAt_ok {ro : Option Nat} {ρ : Operand → Value} {o : Oper} (hd : ro = none ∨ ∀ c, o.op ≠ .defer c) : o.semAt ro ρ = execOp ρ o := by
  rcases hd with rfl | hd
  · rfl
  · exact Oper.semAt_eq ro ρ o hd

theorem rnd_defer {call : Call} {yield : Yield} {dst : Option Nat} {fr : Fr} {k : K} {f : AV} {args : List AV} {r : AE × Fr × AH} (e : afterOp call yield true dst fr k (.dfr f args) h = some r) : False := by
  simp [afterOp] at e

/-- one operation, whatever comes behind it -/
theorem stepOp_ok (T : TabOK P E) {call : Call} {yield : Yield} (hc : CallOK P call) (hy : YieldOK P yield) {rnd : Bool} {ro : Option Nat} (hro : rnd = false → ro = none) {o : Oper} {k : K} {fr : Fr} {a : Act}
    {nid : Nat} {c0 : Cx} {h0 : AH} {w0 : World} (s0 : Step c0 h0 w0 c h w) (hl : c.opn nid) (hg : h.bs.get nid = none) (f : FRel c h w fr a) {n1 : AN} {h1 : AH} (e1 : opA E nid fr.tm o.op h = some (n1, h1)) {e : AE} {fr' : Fr} {h' : AH}
    (e2 : afterOp call yield rnd o.dst fr k n1 h1 = some (e, fr', h')) (m : Nat) (next : Act → World → Prop)
    (hnext : ∀ c1 h1 w1 fr1 a1, Step c0 h0 w0 c1 h1 w1 → FRel c1 h1 w1 fr1 a1 → k fr1 h1 = some (e, fr', h') → next a1 w1) :
    o.wpIn (FR ro) m P a w next (EPost c0 h0 w0 e fr' h') := by
  have r := s0.rel
  refine ⟨fun _ _ => trivial, ?_⟩
  have hop := opA_ok T r hl hg (fun x => f.tm.opnd x) o e1
  have hsem : o.semAt (FR ro).round a.eval = execOp a.eval o := by
    refine semAt_ok ?_
    cases rnd with
    | false => exact .inl (hro rfl)
    | true =>
      right
      intro cl hcl
      rw [hcl] at e1
      simp only [opA, doDefer] at e1
      split at e1
      · split at e1
        · simp only [Option.some.injEq, Prod.mk.injEq] at e1
          obtain ⟨rfl, rfl⟩ := e1
          exact rnd_defer e2
        · cases e1
      · cases e1
  rw [hsem]
  obtain ⟨c1, w1, s1, hn⟩ := hop
  have f1 := f.step r s1
  cases n1 with
  | val v =>
    obtain ⟨cv, hrun, hv⟩ := hn
    simp only [afterOp] at e2
    obtain ⟨fr1, k1, k2, _⟩ := f1.put hv e2
    rcases hrun with hrun | ⟨rfl, hrun⟩
    · rw [hrun]; exact hnext c1 h1 w1 fr1 _ (s0.trans s1) k2 k1
    · rw [hrun]; exact hnext c1 h1 w1 fr1 _ (s0.trans s1) k2 k1
  | enter g args =>
    obtain ⟨A, hrun, hA⟩ := hn
    rw [hrun, Oper.uponIn_enter]
    refine ⟨(fun hh => by cases hh), ?_⟩
    simp only [afterOp] at e2
    cases hcall : call g args h1 with
    | none => rw [hcall] at e2; cases e2
    | some rr =>
      obtain ⟨res, h2⟩ := rr
      rw [hcall] at e2
      have hcc : CallsIn (FR none) (m - 1) P g A w1 (CPost c1 h1 w1 res h2) := hc g args h1 res h2 hcall c1 w1 A s1.rel hA (m - 1)
      have hcc' : CallsIn (FR ro) (m - 1) P g A w1 (CPost c1 h1 w1 res h2) := hcc
      refine hcc'.mono fun en w2 hp => ?_
      obtain ⟨c2, s2, hp⟩ := hp
      have f2 := f1.step s1.rel s2
      cases res with
      | ret v =>
        obtain ⟨cv, rfl, hv⟩ := hp
        simp only [afterCall] at e2
        obtain ⟨fr1, k1, k2, _⟩ := f2.put hv e2
        exact hnext c2 h2 w2 fr1 _ (s0.trans (s1.trans s2)) k2 k1
      | panic v =>
        obtain ⟨cv, rfl, hv⟩ := hp
        simp only [afterCall, Option.some.injEq, Prod.mk.injEq] at e2
        obtain ⟨rfl, rfl, rfl⟩ := e2
        exact ⟨c2, s0.trans (s1.trans s2), f2, cv, rfl, hv⟩
  | yield l args =>
    obtain ⟨b, A, hb, rfl, hrun, hA⟩ := hn
    simp only [afterOp] at e2
    cases hyy : yield l args h1 with
    | none => rw [hyy] at e2; cases e2
    | some vv =>
      obtain ⟨v, h2⟩ := vv
      rw [hyy] at e2
      obtain ⟨fn, tmps, assign, body, y1, y2⟩ := hy l args h1 v h2 hyy c1 _ A b s1.rel hb hA
      rw [hrun, y1, Oper.uponIn_round]
      refine ⟨(fun hh => by cases hh), ?_⟩
      refine (y2 (m - 1) ro).mono fun en w2 hp => ?_
      obtain ⟨c2, cv, rfl, s2, hv⟩ := hp
      have f2 := f1.step s1.rel s2
      obtain ⟨fr1, k1, k2, _⟩ := f2.put hv e2
      exact hnext c2 h2 w2 fr1 _ (s0.trans (s1.trans s2)) k2 k1
  | dfr g args =>
    obtain ⟨d, hrun, hd⟩ := hn
    cases rnd with
    | true => exact (rnd_defer e2).elim
    | false =>
      simp only [afterOp, cond_false] at e2
      rw [hrun]
      have f1' : FRel c1 h1 w1 { fr with dfs := .call g args :: fr.dfs } { a with defers := d :: a.defers } := ⟨f1.tm, f1.n, d, _, rfl, hd, f1.dfs⟩
      obtain ⟨fr1, k1, k2, _⟩ := f1'.put (cv := undef) (by simp [crel, undef, crels]) e2
      exact hnext c1 h1 w1 fr1 _ (s0.trans s1) k2 k1
  | panic v =>
    obtain ⟨cv, hrun, hv⟩ := hn
    simp only [afterOp, Option.some.injEq, Prod.mk.injEq] at e2
    obtain ⟨rfl, rfl, rfl⟩ := e2
    rw [hrun]
    exact ⟨c1, s0.trans s1, f1, cv, rfl, hv⟩

theorem runOps_cons {call : Call} {yield : Yield} {rnd : Bool} {all : List Oper} {o : Oper} {l : List Oper} {fr : Fr} : runOps E call yield rnd all (o :: l) fr h = stepOp E call yield rnd all o (runOps E call yield rnd all l) fr h := rfl
theorem runOps_nil {call : Call} {yield : Yield} {rnd : Bool} {all : List Oper} {fr : Fr} : runOps E call yield rnd all [] fr h = some (.normal, fr, h) := rfl

theorem runOps_ok (T : TabOK P E) {call : Call} {yield : Yield} (hc : CallOK P call) (hy : YieldOK P yield) {rnd : Bool} {ro : Option Nat} (hro : rnd = false → ro = none) (ops : Array Oper) (m : Nat) {c0 : Cx} {h0 : AH} {w0 : World} {e : AE} {fr' : Fr} {h' : AH} :
    ∀ (l pre : List Oper), ops.toList = pre ++ l → ∀ c h w fr a, Step c0 h0 w0 c h w → FRel c h w fr a → runOps E call yield rnd ops.toList l fr h = some (e, fr', h') →
      wpOpsIn (FR ro) m P ops (EPost c0 h0 w0 e fr' h') (List.range' pre.length l.length) a w
  | [], pre, _, c, h, w, fr, a, s, f, hr => by
    rw [runOps_nil] at hr
    simp only [Option.some.injEq, Prod.mk.injEq] at hr
    obtain ⟨rfl, rfl, rfl⟩ := hr
    exact ⟨c, s, f, rfl⟩
  | o :: l, pre, hpre, c, h, w, fr, a, s, f, hr => by
    have hget : ops[pre.length]? = some o := by
      rw [← Array.getElem?_toList, hpre]; simp
    have ih := runOps_ok T hc hy hro ops m (c0 := c0) (h0 := h0) (w0 := w0) (e := e) (fr' := fr') (h' := h') l (pre ++ [o]) (by rw [hpre]; simp)
    rw [runOps_cons] at hr
    simp only [List.length_cons, List.range'_succ, wpOpsIn, hget]
    unfold stepOp at hr
    have hfr := s.rel.fresh h.next (Nat.le_refl _)
    split at hr
    · rename_i hw
      rw [wanted_ok f.tm hw]
      simp only [if_true]
      split at hr
      · rename_i n1 h1 e1
        refine stepOp_ok T hc hy hro s hfr.1 hfr.2 f e1 hr m _ fun c1 h1 w1 fr1 a1 s1 f1 k1 => ?_
        have := ih c1 h1 w1 fr1 a1 s1 f1 k1
        simpa using this
      · cases hr
    · rename_i hw
      rw [wanted_ok f.tm hw]
      simp only [Bool.false_eq_true, if_false]
      refine ⟨fun _ _ => trivial, ?_⟩
      obtain ⟨fr1, k1, k2, _⟩ := f.put (v := .tup []) (cv := undef) (by simp [crel, undef, crels]) hr
      have := ih c h w fr1 _ s k2 k1
      simpa using this
    · cases hr
end Rfx
