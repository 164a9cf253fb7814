/- One operation: what the abstract machine gives, the model gives too. First part: tables; loads and stores; new blocks. -/
import Derived.Test.YtnjpcjnkhelfoabGreatDoorRfxStep
import Derived.Laws.Cells
set_option linter.unusedSectionVars false
set_option linter.unusedVariables false
set_option linter.unusedSimpArgs false
set_option linter.unnecessarySimpa false
namespace Rfx
open Go
variable [Val]

/-! ### the tables -/
def isAggD : TypeDesc → Bool
  | .struct _ => true
  | .array _ _ => true
  | _ => false

def FlatOK (P : Program) (t : Nat) (ks : List FK) : Prop := P.eqGuardType P.depth t = false ∧
  ∀ (c : Cx) (w : World) (a b : List AV) (xs ys : Array Value), fitsAll ks a = true → fitsAll ks b = true → crels c w a xs.toList → crels c w b ys.toList →
    (Op.equal t (.agg xs) (.agg ys)).run P w = .ok (AV.beqs a b) w

structure TyOK (P : Program) (t : Nat) (i : TI) : Prop where
  und : P.underlying t = some i.d
  agg : i.agg = isAggD i.d
  zlen : i.zero.length = i.size
  info : ∃ x z, P.info? t = some x ∧ x.size = i.size ∧ x.bytes = i.bytes ∧ x.zero = some z ∧ (∀ c w, crels c w i.zero z.cells.toList) ∧
    (i.agg = true → ∃ A, z = .agg A) ∧ (i.agg = false → z.cells = #[z])
  flat : i.flat.isEmpty = false → FlatOK P t i.flat

structure TabOK (P : Program) (E : Env) : Prop where
  ty : ∀ t i, E.ty t = some i → TyOK P t i
  fn : ∀ f fn, E.fn f = some fn → P.funcs[f]? = some fn ∧ fn.name ≠ "runtime.NumGoroutine"
  ext : ∀ f args v, E.ext f args = some v → ∀ (c : Cx) (w : World) (A : Array Value), crels c w args A.toList → ∃ cv, (callFunc f A).run P w = .ok (.value cv) w ∧ crel c w v cv
  sym : ∀ op t x y v, E.sym op t x y = some v → ∀ (c : Cx) (w : World) (xv yv : Value), crel c w x xv → crel c w y yv →
    (∀ ox oy, (eqGuard op t ox oy xv yv).run P w = .ok () w) ∧ ∃ cv, (binOp op t xv yv).run P w = .ok cv w ∧ crel c w v cv
  symu : ∀ op x v, E.symu op x = some v → ∀ (c : Cx) (w : World) (xv : Value), crel c w x xv → ∃ cv, (Op.unary op xv).run P w = .ok cv w ∧ crel c w v cv
  xlen : ∀ j v, E.xlen j = some v → ∀ (c : Cx) (w : World), crel c w v (.int .i64 (Val.xn j : Int))
  xat : ∀ j i n cs, E.xat j i n = some cs → i < Val.xn j ∧ ∀ (c : Cx) (w : World), w.heap[Val.xb j]? = some (Val.xobj j) → crelm c w cs (Val.xb j) (Val.xo j + i * n)
  mixed : P.follows .mixedOrders = false ∨ P.follows .mixedOrders = true

section
variable {P : Program} {E : Env} {c : Cx} {h h' : AH} {w : World}

theorem run_und {t : Nat} {d : TypeDesc} (hu : P.underlying t = some d) (w : World) : (underlying t).run P w = .ok d w := by simp [underlying, hu]
theorem run_info {t : Nat} {i : TypeInfo} (hu : P.info? t = some i) (w : World) : (typeInfo t).run P w = .ok i w := by simp [typeInfo, hu]
theorem TyOK.run_sizeOf {t : Nat} {i : TI} (T : TyOK P t i) (w : World) : (Go.sizeOf t).run P w = .ok i.size w := by
  obtain ⟨x, z, h1, h2, _⟩ := T.info
  simp [Go.sizeOf, run_info h1, h2]
theorem TyOK.run_isAgg {t : Nat} {i : TI} (T : TyOK P t i) (w : World) : (isAgg t).run P w = .ok i.agg w := by
  rw [T.agg]
  simp only [isAgg, Sem.run_bind, run_und T.und, Result.andThen_ok]
  cases i.d <;> rfl
theorem TyOK.run_zero {t : Nat} {i : TI} (T : TyOK P t i) (w : World) : ∃ z, (zeroValue t).run P w = .ok z w ∧ (∀ c w, crels c w i.zero z.cells.toList) ∧ (i.agg = true → ∃ A, z = .agg A) ∧ (i.agg = false → z.cells = #[z]) := by
  obtain ⟨x, z, h1, h2, h3, h4, h5, h6, h7⟩ := T.info
  exact ⟨z, by simp [zeroValue, run_info h1, h4], h5, h6, h7⟩
theorem TyOK.run_bytes {t : Nat} {i : TI} (T : TyOK P t i) (w : World) : ∃ x, (typeInfo t).run P w = .ok x w ∧ x.bytes = i.bytes ∧ x.size = i.size := by
  obtain ⟨x, z, h1, h2, h3, _⟩ := T.info
  exact ⟨x, run_info h1 w, h3, h2⟩

/-! ### what an operation must do -/
def DRel (c : Cx) (w : World) (f : AV) (args : List AV) (d : Deferred) : Prop :=
  ∃ g a b A B X, f = .func g a b ∧ d = { target := .fn (.func g) B, args := A ++ X } ∧ crels c w a A.toList ∧ crels c w b B.toList ∧ crels c w args X.toList

def NRel (P : Program) (c : Cx) (w w' : World) (s : Sem Next) : AN → Prop
  | .val v => ∃ cv, (s.run P w = .ok (.value cv) w' ∨ (cv = undef ∧ s.run P w = .ok .skip w')) ∧ crel c w' v cv
  | .enter f a => ∃ A, s.run P w = .ok (.enter f A) w' ∧ crels c w' a A.toList
  | .yield l a => ∃ b A, c.loc l = some (b, 0) ∧ w' = w ∧ s.run P w = (Instr.yield b A).run P w ∧ crels c w' a A.toList
  | .dfr f a => ∃ d, s.run P w = .ok (.defer d) w' ∧ DRel c w' f a d
  | .panic v => ∃ cv, s.run P w = .halt (.panic cv) w' ∧ crel c w' v cv

/-- the abstract answer r at heap h is one of s at world w; new blocks bear the id nid -/
def OpOK (P : Program) (c : Cx) (h : AH) (w : World) (s : Sem Next) (n : AN) (h' : AH) : Prop :=
  ∃ c' w', Step c h w c' h' w' ∧ NRel P c' w w' s n

def VOK (P : Program) (c : Cx) (h : AH) (w : World) (s : Sem Value) (v : AV) (h' : AH) : Prop :=
  ∃ c' w' cv, Step c h w c' h' w' ∧ s.run P w = .ok cv w' ∧ crel c' w' v cv

def VON (P : Program) (c : Cx) (h : AH) (w : World) (s : Sem Value) (r : ON) : Prop :=
  ∀ n h', r = some (n, h') → ∃ v, n = .val v ∧ VOK P c h w s v h'

def UON (P : Program) (c : Cx) (h : AH) (w : World) (s : Sem Unit) (r : ON) : Prop :=
  ∀ n h', r = some (n, h') → n = .val (.tup []) ∧ ∃ c' w', Step c h w c' h' w' ∧ s.run P w = .ok () w'

theorem VON.op {s : Sem Value} {r : ON} (hv : VON P c h w s r) {n : AN} {h' : AH} (e : r = some (n, h')) :
    OpOK P c h w (do pure (.value (← s))) n h' := by
  obtain ⟨v, rfl, c', w', cv, h1, h2, h3⟩ := hv n h' e
  exact ⟨c', w', h1, cv, .inl (by simp [h2]), h3⟩
theorem UON.op {s : Sem Unit} {r : ON} (hv : UON P c h w s r) {n : AN} {h' : AH} (e : r = some (n, h')) :
    OpOK P c h w (do s; pure .skip) n h' := by
  obtain ⟨rfl, c', w', h1, h2⟩ := hv n h' e
  exact ⟨c', w', h1, undef, .inr ⟨rfl, by simp [h2]⟩, by simp [crel, undef, crels]⟩

/-- an answer that leaves heap and world alone -/
theorem VOK.same (r : HRel c h w) {s : Sem Value} {v : AV} {cv : Value} (e : s.run P w = .ok cv w) (hv : crel c w v cv) : VOK P c h w s v h :=
  ⟨c, w, cv, Step.refl r, e, hv⟩
theorem VON.none {s : Sem Value} : VON P c h w s none := fun _ _ e => by cases e
theorem VON.val (r : HRel c h w) {s : Sem Value} {v : AV} {cv : Value} (e : s.run P w = .ok cv w) (hv : crel c w v cv) : VON P c h w s (some (.val v, h)) := by
  rintro n h' e'
  obtain ⟨rfl, rfl⟩ := Prod.mk.inj (Option.some.inj e')
  exact ⟨v, rfl, VOK.same r e hv⟩
theorem UON.none {s : Sem Unit} : UON P c h w s none := fun _ _ e => by cases e

/-! ### addresses -/
@[simp] theorem add_none (b off n : Nat) : (⟨b, off, none⟩ : Addr).add n = ⟨b, off + n, none⟩ := by
  unfold Addr.add; split <;> simp_all

theorem takeN_some {n : Nat} {l r : List AV} (h : takeN n l = some r) : n ≤ l.length ∧ r = l.take n := by
  obtain ⟨h1, h2⟩ := cond_some h
  exact ⟨ble_t h1, (Option.some.inj h2).symm⟩

theorem HRel.row (r : HRel c h w) {o : Nat} {cs : List AV} (ho : h.cells o = some cs) : h.bs.get o = some (.cells cs) := by
  unfold AH.cells at ho
  split at ho
  · rename_i cs' hg; cases ho; exact hg
  · cases ho

theorem readPtr_ok (r : HRel c h w) {p : AV} {n : Nat} {cs : List AV} (e : readPtr h p n = some cs) {cv : Value} (hp : crel c w p cv) :
    cs.length = n ∧ ∃ b off vs, cv = .pointer (some ⟨b, off, none⟩) ∧ crels c w cs vs ∧ ∀ j v, vs[j]? = some v → w.cell? ⟨b, off + j, none⟩ = some v := by
  cases p with
  | ptr o off =>
    simp only [readPtr] at e
    cases hc : h.cells o with
    | none => rw [hc] at e; cases e
    | some row =>
      rw [hc] at e
      obtain ⟨h1, rfl⟩ := takeN_some e
      obtain ⟨b, base, arr, ty, fz, g1, g2, g3, g4, g5⟩ := r.cells o row (r.row hc)
      simp only [crel] at hp
      obtain ⟨b', base', k1, rfl⟩ := hp
      obtain ⟨rfl, rfl⟩ := Prod.mk.inj (Option.some.inj (g1.symm.trans k1))
      obtain ⟨vs, v1, v2⟩ := crelm_vals (crelm_take n (crelm_drop off g4))
      exact ⟨by rw [List.length_take]; omega, b, base + off, vs, rfl, v1, v2⟩
  | ref row =>
    simp only [readPtr] at e
    obtain ⟨h1, rfl⟩ := takeN_some e
    simp only [crel] at hp
    obtain ⟨b, off, rfl, k2, k3⟩ := hp
    obtain ⟨vs, v1, v2⟩ := crelm_vals (crelm_take n k3)
    exact ⟨by rw [List.length_take]; omega, b, off, vs, rfl, v1, v2⟩
  | _ => simp [readPtr] at e

theorem run_cells {b off : Nat} {vs : List Value} {n : Nat} (hn : vs.length = n) (hc : ∀ j v, vs[j]? = some v → w.cell? ⟨b, off + j, none⟩ = some v) :
    (loadCells ⟨b, off, none⟩ n).run P w = .ok vs.toArray w := by
  subst hn
  exact run_loadCells_list w ⟨b, off, none⟩ vs fun j v hv => by rw [add_none]; exact hc j v hv

theorem one1_ok (r : HRel c h w) {agg : Bool} {cs : List AV} {vs : List Value} {s : Sem Value} (hr : crels c w cs vs)
    (ha : agg = true → s.run P w = .ok (.agg vs.toArray) w) (hb : agg = false → ∀ v, vs = [v] → s.run P w = .ok v w) : VON P c h w s (one1 agg cs h) := by
  unfold one1
  cases agg with
  | true =>
    simp only [cond_true]
    refine VON.val r (ha rfl) ?_
    simp only [crel]
    exact ⟨vs.toArray, rfl, by simpa using hr⟩
  | false =>
    simp only [cond_false]
    split
    · rename_i v
      obtain ⟨x, rfl, hx⟩ := crels_of_one hr
      exact VON.val r (hb rfl x rfl) hx
    · exact VON.none

theorem doLoad_ok (T : TabOK P E) (r : HRel c h w) {t : Nat} {p : AV} {cv : Value} (hp : crel c w p cv) : VON P c h w (Instr.loadAt t cv) (doLoad E h t p) := by
  unfold doLoad
  cases ht : E.ty t with
  | none => exact VON.none
  | some i =>
    have Ti := T.ty t i ht
    dsimp only
    cases hr : readPtr h p i.size with
    | none => exact VON.none
    | some cs =>
      obtain ⟨hl, b, off, vs, rfl, h1, h2⟩ := readPtr_ok r hr hp
      have hlv : vs.length = i.size := (crels_length h1).trans hl
      dsimp only
      refine one1_ok r h1 (fun ha => ?_) (fun ha v hv => ?_)
      · simp only [Instr.loadAt, Instr.sureAddr, Sem.run_bind, Sem.run_pure, Result.andThen_ok, loadVar, Ti.run_isAgg, ha, if_true, Ti.run_sizeOf, run_cells hlv h2]
      · subst hv
        have hc : w.cell? ⟨b, off, none⟩ = some v := by simpa using h2 0 v rfl
        simp [Instr.loadAt, Instr.sureAddr, loadVar, Ti.run_isAgg, ha, hc]

/-! ### stores -/
theorem run_store_cells (b off : Nat) (ty : TypeId) (fz : Nat × Nat) : ∀ (vs : List Value) (i : Nat) (cur : Array Value) (w : World), w.heap[b]? = some (.cells cur ty fz) →
    (∀ k, k < cur.size → (decide (fz.1 ≤ k) && decide (k < fz.2)) = false) → off + i + vs.length ≤ cur.size → (∀ v ∈ vs, v.oneCell' = true) →
    ∃ w' cur', (storeCells ⟨b, off, none⟩ vs i).run P w = .ok () w' ∧ w'.heap[b]? = some (.cells cur' ty fz) ∧ cur'.size = cur.size ∧
      (∀ k, cur'[k]? = if off + i ≤ k ∧ k < off + i + vs.length then vs[k - (off + i)]? else cur[k]?) ∧ (∀ j, j ≠ b → w'.heap[j]? = w.heap[j]?) ∧ w'.heap.size = w.heap.size ∧ (w'.os = w.os ∧ w'.output = w.output)
  | [], i, cur, w, hg, _, _, _ => ⟨w, cur, rfl, hg, rfl, fun k => by rw [if_neg (by simp)], fun _ _ => rfl, rfl, rfl, rfl⟩
  | v :: rest, i, cur, w, hg, hf, hl, h1 => by
    have hi : off + i < cur.size := by simp at hl; omega
    have hcell : w.cell? ⟨b, off + i, none⟩ = some cur[off + i] := by simp [World.cell?, hg, hi]
    have hfro : w.frozen? ⟨b, off + i, none⟩ = false := by
      have := hf _ hi
      obtain ⟨lo, hi'⟩ := fz
      simpa [World.frozen?, hg] using this
    have hset : (w.setCell ⟨b, off + i, none⟩ v).heap[b]? = some (.cells (cur.setIfInBounds (off + i) v) ty fz) := by
      simp [World.setCell, hg, Array.getElem?_modify]
    have hoth : ∀ j, j ≠ b → (w.setCell ⟨b, off + i, none⟩ v).heap[j]? = w.heap[j]? := fun j hj => by
      simp only [World.setCell, Array.getElem?_modify]
      rw [if_neg (fun h : b = j => hj h.symm)]
    have hst : (store ((⟨b, off, none⟩ : Addr).add i) v).run P w = .ok () (w.setCell ⟨b, off + i, none⟩ v) := by
      rw [add_none, run_store P w _ v _ (h1 v (by simp)), hcell]
      simp [hfro]
    obtain ⟨w', cur', g1, g2, g3, g4, g5, g6, g7⟩ := run_store_cells b off ty fz rest (i + 1) (cur.setIfInBounds (off + i) v) _ hset (fun k hk => hf k (by simpa using hk)) (by simp at hl ⊢; omega) (fun x hx => h1 x (by simp [hx]))
    refine ⟨w', cur', by simp only [storeCells, Sem.run_bind, hst, Result.andThen_ok, g1], g2, by simpa using g3, fun k => ?_, fun j hj => (g5 j hj).trans (hoth j hj), by simpa [World.setCell] using g6, by simpa [World.setCell] using g7⟩
    rw [g4 k]
    by_cases e : k = off + i
    · subst e
      rw [if_neg (by omega), if_pos (by simp)]
      simp [hi]
    · by_cases hin : off + (i + 1) ≤ k ∧ k < off + (i + 1) + rest.length
      · rw [if_pos hin, if_pos (by simp; omega), show k - (off + i) = (k - (off + (i + 1))) + 1 from by omega]
        simp
      · rw [if_neg hin, if_neg (by simp; omega)]
        rw [Array.getElem?_setIfInBounds, if_neg (fun h : off + i = k => e h.symm)]

theorem allOne_ok : ∀ {cs : List AV} {vs : List Value}, allOne cs = true → crels c w cs vs → ∀ v ∈ vs, v.oneCell' = true
  | [], _, _, hr => by simp only [crels] at hr; subst hr; simp
  | a :: cs, _, ho, hr => by
    simp only [crels] at hr
    obtain ⟨v, y, rfl, h2, h3⟩ := hr
    simp only [allOne, Bool.and_eq_true] at ho
    intro u hu
    rcases List.mem_cons.1 hu with rfl | hu
    · cases a <;> simp only [AV.one, crel] at ho h2 <;> first
        | (cases ho.1; done)
        | (obtain ⟨rfl, _, _, _⟩ := h2; rfl)
        | (subst h2; rfl)
        | (obtain ⟨_, rfl, _⟩ := h2; rfl)
        | (obtain ⟨_, _, _, rfl⟩ := h2; rfl)
        | (obtain ⟨_, _, rfl, _⟩ := h2; rfl)
        | (obtain ⟨_, _, _, _, rfl, _⟩ := h2; rfl)
        | (obtain ⟨_, _, _, rfl, _⟩ := h2; rfl)
        | (obtain ⟨_, _, rfl⟩ := h2; rfl)
    · exact allOne_ok ho.2 h3 u hu

theorem cellsOf_ok {x : AV} {cs : List AV} {v : Value} (e : cellsOf x = some cs) (hx : crel c w x v) : crels c w cs v.cells.toList := by
  cases x <;> simp only [cellsOf, Option.some.injEq] at e <;> first
    | (cases e; done)
    | (subst e
       simp only [crel] at hx
       obtain ⟨A, rfl, h2⟩ := hx
       simpa [Value.cells] using h2)
    | (subst e
       have hv : v.cells = #[v] := by
         simp only [crel] at hx
         first
         | (obtain ⟨rfl, _, _, _⟩ := hx; rfl)
         | (subst hx; rfl)
         | (obtain ⟨_, rfl, _⟩ := hx; rfl)
         | (obtain ⟨_, _, _, rfl⟩ := hx; rfl)
         | (obtain ⟨_, _, rfl, _⟩ := hx; rfl)
         | (obtain ⟨_, _, _, _, rfl, _⟩ := hx; rfl)
         | (obtain ⟨_, _, _, rfl, _⟩ := hx; rfl)
         | (obtain ⟨_, _, rfl⟩ := hx; rfl)
       rw [hv]
       exact crels_one hx)

theorem setAt_get {cs vs : List AV} {off k : Nat} (hl : off + vs.length ≤ cs.length) :
    (setAt cs off vs)[k]? = if off ≤ k ∧ k < off + vs.length then vs[k - off]? else cs[k]? := by
  unfold setAt
  by_cases h1 : k < off
  · rw [if_neg (by omega), List.append_assoc, List.getElem?_append_left (by simp; omega), List.getElem?_take, if_pos h1]
  · by_cases h2 : k < off + vs.length
    · rw [if_pos (by omega), List.append_assoc, List.getElem?_append_right (by simp; omega), List.getElem?_append_left (by simp; omega)]
      simp; congr 1; omega
    · rw [if_neg (by omega), List.getElem?_append_right (by simp; omega), List.getElem?_drop]
      congr 1
      simp; omega
theorem setAt_length {cs vs : List AV} {off : Nat} (hl : off + vs.length ≤ cs.length) : (setAt cs off vs).length = cs.length := by
  unfold setAt; simp; omega

/-- rows, cell by cell -/
theorem crelm_iff : ∀ {a : List AV} {b off : Nat}, crelm c w a b off ↔ ∀ j x, a[j]? = some x → ∃ v, w.cell? ⟨b, off + j, none⟩ = some v ∧ crel c w x v
  | [], _, _ => by simp [crelm]
  | x :: a, b, off => by
    simp only [crelm]
    constructor
    · rintro ⟨⟨v, h1, h2⟩, h3⟩ j y hy
      cases j with
      | zero => simp at hy; subst hy; exact ⟨v, h1, h2⟩
      | succ j =>
        simp at hy
        obtain ⟨u, k1, k2⟩ := crelm_iff.1 h3 j y hy
        exact ⟨u, by rwa [show off + 1 + j = off + (j + 1) from by omega] at k1, k2⟩
    · intro hh
      refine ⟨?_, crelm_iff.2 fun j y hy => ?_⟩
      · obtain ⟨v, h1, h2⟩ := hh 0 x rfl
        exact ⟨v, by simpa using h1, h2⟩
      · obtain ⟨v, h1, h2⟩ := hh (j + 1) y (by simpa using hy)
        exact ⟨v, by rwa [show off + (j + 1) = off + 1 + j from by omega] at h1, h2⟩

theorem cell_of {b off : Nat} {cur : Array Value} {ty : TypeId} {fz : Nat × Nat} (hg : w.heap[b]? = some (.cells cur ty fz)) : w.cell? ⟨b, off, none⟩ = cur[off]? := by
  simp [World.cell?, hg]

theorem writePtr_ok (r : HRel c h w) {p : AV} {cs : List AV} {vs : List Value} {cv : Value} (e : writePtr h p cs = some h') (hp : crel c w p cv)
    (h1 : allOne cs = true) (hr : crels c w cs vs) : ∃ b off w', cv = .pointer (some ⟨b, off, none⟩) ∧ (storeCells ⟨b, off, none⟩ vs).run P w = .ok () w' ∧ Step c h w c h' w' := by
  cases p with
  | ptr o off =>
    simp only [writePtr] at e
    cases hc : h.cells o with
    | none => rw [hc] at e; cases e
    | some row =>
      rw [hc] at e
      obtain ⟨e1, e2⟩ := cond_some e
      have e1 := ble_t e1
      simp only [Option.some.injEq] at e2
      subst e2
      obtain ⟨b, base, arr, ty, fz, g1, g2, g3, g4, g5⟩ := r.cells o row (r.row hc)
      simp only [crel] at hp
      obtain ⟨b', base', k1, rfl⟩ := hp
      obtain ⟨rfl, rfl⟩ := Prod.mk.inj (Option.some.inj (g1.symm.trans k1))
      have hlen := crels_length hr
      obtain ⟨w', cur', s1, s2, s3, s4, s5, s6, s7⟩ := run_store_cells (P := P) b (base + off) ty fz vs 0 arr w g2 g3 (by simp; omega) (allOne_ok h1 hr)
      refine ⟨b, base + off, w', rfl, s1, ?_⟩
      refine Step.write r (o := o) (base := base) (by unfold live; rw [r.row hc]; simp) g1 s7 s6 s5 (fun s hs => ?_) fun m => ?_
      · simp only [World.shape?, g2, s2, s3] at hs ⊢; exact hs
      · refine ⟨cur', ty, fz, s2, fun k hk => g3 k (by omega), crelm_iff.2 fun j x hx => ?_, by rw [setAt_length e1]; omega⟩
        rw [setAt_get e1] at hx
        rw [cell_of s2, s4]
        by_cases hin : off ≤ j ∧ j < off + cs.length
        · rw [if_pos hin] at hx
          obtain ⟨y, y1, y2⟩ := crels_get _ hr hx
          refine ⟨y, ?_, crel_mono m _ _ y2⟩
          rw [if_pos (by omega), ← y1]
          congr 1; omega
        · rw [if_neg hin] at hx
          obtain ⟨y, y1, y2⟩ := crelm_iff.1 g4 j x hx
          rw [cell_of g2] at y1
          exact ⟨y, by rw [if_neg (by omega)]; exact y1, crel_mono m _ _ y2⟩
  | _ => simp [writePtr] at e
end
end Rfx
