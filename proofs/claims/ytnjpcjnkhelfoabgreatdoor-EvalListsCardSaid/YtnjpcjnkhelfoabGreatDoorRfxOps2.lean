/- One operation, second part: stores, new blocks, parts of values, comparisons. -/
import Derived.Test.YtnjpcjnkhelfoabGreatDoorRfxOps
set_option linter.unusedSectionVars false
set_option linter.unusedVariables false
set_option linter.unusedSimpArgs false
set_option linter.unnecessarySimpa false
namespace Rfx
open Go
variable [Val]

section
variable {P : Program} {E : Env} {c : Cx} {h h' : AH} {w : World}

theorem doStore_ok (T : TabOK P E) (r : HRel c h w) {t : Nat} {p x : AV} {cv xv : Value} (hp : crel c w p cv) (hx : crel c w x xv) :
    UON P c h w (Instr.storeAt t cv xv) (doStore E h t p x) := by
  intro n h1 e
  unfold doStore at e
  cases ht : E.ty t with
  | none => rw [ht] at e; cases e
  | some i =>
    have Ti := T.ty t i ht
    rw [ht] at e
    cases hc : cellsOf x with
    | none => rw [hc] at e; cases e
    | some cs =>
      rw [hc] at e
      dsimp only at e
      obtain ⟨e1, e2⟩ := cond_some e
      simp only [Bool.and_eq_true] at e1
      have hlen := beq_t e1.1
      cases hw : writePtr h p cs with
      | none => rw [hw] at e2; cases e2
      | some h2 =>
        rw [hw] at e2
        simp only [Option.some.injEq, Prod.mk.injEq] at e2
        obtain ⟨rfl, rfl⟩ := e2
        have hr := cellsOf_ok hc hx
        obtain ⟨b, off, w', rfl, s1, s2⟩ := writePtr_ok (P := P) r hw hp e1.2 hr
        refine ⟨rfl, c, w', s2, ?_⟩
        have hsz : xv.cells.size = i.size := by rw [← hlen, ← crels_length hr]; simp
        simp only [Instr.storeAt, Instr.sureAddr, Sem.run_bind, Sem.run_pure, Result.andThen_ok, storeVar, Ti.run_sizeOf, hsz, ne_eq, not_true_eq_false, if_false, s1]

theorem new_get (w : World) (o : Obj) : ({ w with heap := w.heap.push o } : World).heap[w.heap.size]? = some o := by simp

theorem Mono.push (r : HRel c h w) {nid : Nat} (hl : c.opn nid) (o : Obj) (base : Nat) : Mono c w (c.add nid w.heap.size base) { w with heap := w.heap.push o } := by
  refine ⟨fun i x e => ?_, fun _ e => e, fun b hb => heap_push_get (r.flt b hb), fun b s hs => ?_⟩
  · simp only [Cx.add]; rw [if_neg (by rintro rfl; rw [hl.1] at e; cases e)]; exact e
  · simp only [World.shape?] at hs ⊢
    by_cases hb : b < w.heap.size
    · rw [heap_push_get hb]; exact hs
    · rw [Array.getElem?_eq_none (by omega)] at hs; cases hs

/-- a new row of cells; the cells behind the known ones are spare -/
theorem step_rowF (r : HRel c h w) {nid : Nat} (hl : c.opn nid) (hg : h.bs.get nid = none) {cs : List AV} {vs rest : List Value} (hr : crels c w cs vs) (ty : TypeId) {arr : Array Value} (ha : arr.toList = vs ++ rest)
    (fz : Nat × Nat) (hfz : ∀ off, off < arr.size → (decide (fz.1 ≤ off) && decide (off < fz.2)) = false) :
    Step c h w (c.add nid w.heap.size 0) (h.put nid (.cells cs)) { w with heap := w.heap.push (.cells arr ty fz) } := by
  have m := Mono.push r hl (.cells arr ty fz) 0
  refine Step.alloc r hl hg ⟨arr, ty, fz, new_get _ _, hfz, ?_, ?_⟩
  · refine crelm_of (crels_mono m _ _ hr) fun j v hv => ?_
    rw [cell_of (new_get _ _), Nat.zero_add, ← Array.getElem?_toList, ha, List.getElem?_append_left]
    · exact hv
    · rcases Nat.lt_or_ge j vs.length with h | h
      · exact h
      · rw [List.getElem?_eq_none h] at hv; cases hv
  · have : arr.size = (vs ++ rest).length := by rw [← ha]; simp
    have hl := crels_length hr
    simp at this
    omega

theorem step_row (r : HRel c h w) {nid : Nat} (hl : c.opn nid) (hg : h.bs.get nid = none) {cs : List AV} {vs rest : List Value} (hr : crels c w cs vs) (ty : TypeId) {arr : Array Value} (ha : arr.toList = vs ++ rest) :
    Step c h w (c.add nid w.heap.size 0) (h.put nid (.cells cs)) { w with heap := w.heap.push (.cells arr ty) } :=
  step_rowF r hl hg hr ty ha (0, 0) fun off _ => by simp

theorem add_loc (c : Cx) (nid b base : Nat) : (c.add nid b base).loc nid = some (b, base) := by simp [Cx.add]

theorem doAlloc_ok (r : HRel c h w) {nid : Nat} (hl : c.opn nid) (hg : h.bs.get nid = none) {cs : List AV} {v : Value} (hr : crels c w cs v.cells.toList) (ty : TypeId) {s : Sem Value}
    (hs : s.run P w = .ok (.pointer (some ⟨w.heap.size, 0, none⟩)) { w with heap := w.heap.push (.cells v.cells ty) }) : VON P c h w s (doAlloc h nid cs) := by
  rintro n h' e
  simp only [doAlloc, Option.some.injEq, Prod.mk.injEq] at e
  obtain ⟨rfl, rfl⟩ := e
  refine ⟨_, rfl, _, _, _, step_row r hl hg (rest := []) hr ty (by simp), hs, ?_⟩
  simp only [crel]
  exact ⟨w.heap.size, 0, add_loc _ _ _ _, rfl⟩

theorem doAllocT_ok (T : TabOK P E) (r : HRel c h w) {nid : Nat} (hl : c.opn nid) (hg : h.bs.get nid = none) (t : Nat) : VON P c h w (Instr.alloc t true (.tuple #[])) (doAllocT E h nid t) := by
  unfold doAllocT
  cases ht : E.ty t with
  | none => exact VON.none
  | some i =>
    obtain ⟨z, z1, z2, _⟩ := (T.ty t i ht).run_zero w
    exact doAlloc_ok r hl hg (z2 c w) t (by simp [Instr.alloc, z1, newVar, newRow])

theorem doBox_ok (r : HRel c h w) {nid : Nat} (hl : c.opn nid) (hg : h.bs.get nid = none) (t : Nat) {x : AV} {v : Value} (hx : crel c w x v) : VON P c h w (Instr.box t v) (doBox h nid x) := by
  unfold doBox
  cases hc : cellsOf x with
  | none => exact VON.none
  | some cs => exact doAlloc_ok r hl hg (cellsOf_ok hc hx) t (by simp [Instr.box, newVar, newRow])

/-! ### parts -/
theorem crels_iff : ∀ {a : List AV} {v : List Value}, crels c w a v ↔ v.length = a.length ∧ ∀ (j : Nat) (x : AV), a[j]? = some x → ∃ y, v[j]? = some y ∧ crel c w x y
  | [], v => by simp [crels]
  | x :: a, v => by
    simp only [crels]
    constructor
    · rintro ⟨y, ys, rfl, h1, h2⟩
      obtain ⟨k1, k2⟩ := crels_iff.1 h2
      refine ⟨by simp [k1], fun j z hz => ?_⟩
      cases j with
      | zero => simp at hz; subst hz; exact ⟨y, rfl, h1⟩
      | succ j => simp at hz ⊢; exact k2 j z hz
    · rintro ⟨h1, h2⟩
      cases v with
      | nil => simp at h1
      | cons y ys =>
        obtain ⟨u, u1, u2⟩ := h2 0 x rfl
        simp at u1; subst u1
        exact ⟨y, ys, rfl, u2, crels_iff.2 ⟨by simpa using h1, fun j z hz => by simpa using h2 (j + 1) z (by simpa using hz)⟩⟩

theorem fold_get : ∀ (vs : List Value) (k off : Nat) (cells : Array Value), off + k + vs.length ≤ cells.size →
    ((vs.zipIdx k).foldl (fun cs (x : Value × Nat) => cs.setIfInBounds (off + x.2) x.1) cells).size = cells.size ∧
    ∀ m, ((vs.zipIdx k).foldl (fun cs (x : Value × Nat) => cs.setIfInBounds (off + x.2) x.1) cells)[m]? = if off + k ≤ m ∧ m < off + k + vs.length then vs[m - (off + k)]? else cells[m]?
  | [], k, off, cells, _ => ⟨rfl, fun m => by rw [if_neg (by simp)]; rfl⟩
  | v :: vs, k, off, cells, hl => by
    simp only [List.zipIdx_cons, List.foldl_cons]
    simp only [List.length_cons] at hl
    obtain ⟨h1, h2⟩ := fold_get vs (k + 1) off (cells.setIfInBounds (off + k) v) (by simp; omega)
    refine ⟨by rw [h1]; simp, fun m => ?_⟩
    rw [h2 m]
    by_cases e : m = off + k
    · subst e
      rw [if_neg (by omega), if_pos (by simp)]
      have hlt : off + k < cells.size := by omega
      simp [hlt]
    · by_cases hin : off + (k + 1) ≤ m ∧ m < off + (k + 1) + vs.length
      · rw [if_pos hin, if_pos (by simp; omega), show m - (off + k) = (m - (off + (k + 1))) + 1 from by omega]
        simp
      · rw [if_neg hin, if_neg (by simp; omega), Array.getElem?_setIfInBounds, if_neg (fun h : off + k = m => e h.symm)]

theorem crels_setAt {cells vs : List AV} {ca : Array Value} {va : Array Value} {off : Nat} (hc : crels c w cells ca.toList) (hv : crels c w vs va.toList) (hl : off + vs.length ≤ cells.length) :
    crels c w (setAt cells off vs) (va.zipIdx.foldl (fun cs (x : Value × Nat) => cs.setIfInBounds (off + x.2) x.1) ca).toList := by
  have l1 := crels_length hc
  have l2 := crels_length hv
  have hz : va.zipIdx.foldl (fun cs (x : Value × Nat) => cs.setIfInBounds (off + x.2) x.1) ca = (va.toList.zipIdx 0).foldl (fun cs (x : Value × Nat) => cs.setIfInBounds (off + x.2) x.1) ca := by
    rw [← Array.foldl_toList, Array.toList_zipIdx]
  simp at l1 l2
  obtain ⟨h1, h2⟩ := fold_get va.toList 0 off ca (by simp; omega)
  rw [hz, crels_iff]
  refine ⟨by rw [setAt_length hl]; simp [h1, l1], fun j x hx => ?_⟩
  rw [setAt_get hl] at hx
  rw [Array.getElem?_toList, h2 j]
  by_cases hin : off ≤ j ∧ j < off + vs.length
  · rw [if_pos hin] at hx
    obtain ⟨y, y1, y2⟩ := crels_get _ hv hx
    exact ⟨y, by rw [if_pos (by simp; omega)]; simpa using y1, y2⟩
  · rw [if_neg hin] at hx
    obtain ⟨y, y1, y2⟩ := crels_get _ hc hx
    exact ⟨y, by rw [if_neg (by simp; omega)]; simpa using y1, y2⟩

theorem fill_ok {pl : Nat → Option (Nat × Nat)} {tm : Tr AV} {ρ : Operand → Value} (hρ : ∀ x, crel c w (opnd tm x) (ρ x)) :
    ∀ (parts : List (Nat × Operand)) (ps : List (Nat × Nat × Option (List AV))) (cells cs : List AV) (ca : Array Value), partsA pl tm parts = some ps → fillA cells ps = some cs → crels c w cells ca.toList →
      ∃ ca', Instr.fill pl ca (parts.map fun x => (x.1, ρ x.2)) = some ca' ∧ crels c w cs ca'.toList
  | [], ps, cells, cs, ca, h1, h2, h3 => by
    simp only [partsA, Option.some.injEq] at h1
    subst h1
    simp only [fillA, Option.some.injEq] at h2
    subst h2
    exact ⟨ca, rfl, h3⟩
  | (j, x) :: r, ps, cells, cs, ca, h1, h2, h3 => by
    simp only [partsA] at h1
    cases hp : pl j with
    | none => rw [hp] at h1; cases h1
    | some on =>
      obtain ⟨off, n⟩ := on
      cases hq : partsA pl tm r with
      | none => rw [hp, hq] at h1; cases h1
      | some l =>
        rw [hp, hq] at h1
        simp only [Option.some.injEq] at h1
        subst h1
        cases hcx : cellsOf (opnd tm x) with
        | none => rw [hcx] at h2; simp [fillA] at h2
        | some vs =>
          rw [hcx] at h2
          simp only [fillA] at h2
          obtain ⟨k1, k2⟩ := cond_some h2
          simp only [Bool.and_eq_true] at k1
          have e1 := beq_t k1.1
          have e2 := ble_t k1.2
          have hv := cellsOf_ok hcx (hρ x)
          have hlv : (ρ x).cells.size = n := by rw [← e1, ← crels_length hv]; simp
          have hlc : ca.size = cells.length := by rw [← crels_length h3]; simp
          obtain ⟨ca', f1, f2⟩ := fill_ok hρ r l _ cs _ hq k2 (crels_setAt h3 hv (by omega))
          refine ⟨ca', ?_, f2⟩
          simp only [List.map_cons, Instr.fill, hp, hlv]
          rw [if_neg (by simp; omega)]
          exact f1

theorem run_mapM_fields (T : TabOK P E) : ∀ (fs : List Go.Field), allSized E fs = true → ∃ l : List (Nat × Nat),
    (fs.mapM (m := Sem) fun (f : Go.Field) => do pure (f.offset, ← Go.sizeOf f.type)).run P w = .ok l w ∧ l.length = fs.length ∧ ∀ (j : Nat) (f : Go.Field), fs[j]? = some f → ∃ n, sz E f.type = some n ∧ l[j]? = some (f.offset, n)
  | [], _ => ⟨[], by simp, rfl, by simp⟩
  | f :: fs, hh => by
    simp only [allSized, Bool.and_eq_true] at hh
    obtain ⟨l, l1, l2, l3⟩ := run_mapM_fields T fs hh.2
    cases ht : E.ty f.type with
    | none => simp [sz, ht] at hh
    | some i =>
      refine ⟨(f.offset, i.size) :: l, ?_, by simp [l2], fun j g hj => ?_⟩
      · simp only [List.mapM_cons, Sem.run_bind, (T.ty _ _ ht).run_sizeOf, Result.andThen_ok, Sem.run_pure, l1]
      · cases j with
        | zero => simp at hj; subst hj; exact ⟨i.size, by simp [sz, ht], rfl⟩
        | succ j => simp at hj ⊢; exact l3 j g hj

theorem partsA_mono {pl pl' : Nat → Option (Nat × Nat)} {tm : Tr AV} (hpl : ∀ j o n, pl j = some (o, n) → pl' j = some (o, n)) :
    ∀ (parts : List (Nat × Operand)) (ps : List (Nat × Nat × Option (List AV))), partsA pl tm parts = some ps → partsA pl' tm parts = some ps
  | [], _, h => h
  | (j, y) :: xs, ps, hp => by
    simp only [partsA] at hp ⊢
    cases e1 : pl j with
    | none => rw [e1] at hp; cases hp
    | some on =>
      obtain ⟨o, n⟩ := on
      cases e2 : partsA pl tm xs with
      | none => rw [e1, e2] at hp; cases hp
      | some l =>
        rw [e1, e2] at hp
        rw [hpl _ _ _ e1, partsA_mono hpl xs l e2]; exact hp

theorem doFill_ok (r : HRel c h w) {pl pl' : Nat → Option (Nat × Nat)} {tm : Tr AV} {ρ : Operand → Value} (hρ : ∀ x, crel c w (opnd tm x) (ρ x)) {parts : List (Nat × Operand)} {cells : List AV} {ca : Array Value}
    (hc : crels c w cells ca.toList) (hpl : ∀ j o n, pl j = some (o, n) → pl' j = some (o, n)) {s : Sem Value}
    (hs : ∀ ca', Instr.fill pl' ca (parts.map fun x => (x.1, ρ x.2)) = some ca' → s.run P w = .ok (.agg ca') w) : VON P c h w s (doFill h cells (partsA pl tm parts)) := by
  unfold doFill
  cases hp : partsA pl tm parts with
  | none => exact VON.none
  | some ps =>
    dsimp only
    cases hf : fillA cells ps with
    | none => exact VON.none
    | some cs =>
      have hp' := partsA_mono hpl parts ps hp
      obtain ⟨ca', f1, f2⟩ := fill_ok hρ parts ps cells cs ca hp' hf hc
      refine VON.val r (hs ca' f1) ?_
      simp only [crel]
      exact ⟨ca', rfl, f2⟩

theorem doBuild_ok (T : TabOK P E) (r : HRel c h w) {tm : Tr AV} {ρ : Operand → Value} (hρ : ∀ x, crel c w (opnd tm x) (ρ x)) (t : Nat) (parts : Array (Nat × Operand)) :
    VON P c h w (Instr.build t (parts.map fun (i, x) => (i, ρ x))) (doBuild E h tm t parts) := by
  unfold doBuild
  cases ht : E.ty t with
  | none => exact VON.none
  | some i =>
    have Ti := T.ty t i ht
    obtain ⟨z, z1, z2, z3, z4⟩ := Ti.run_zero w
    have hmap : (parts.map fun (x : Nat × Operand) => (x.1, ρ x.2)).toList = parts.toList.map fun x => (x.1, ρ x.2) := by simp
    dsimp only
    split
    · rename_i fs hd
      cases hs : allSized E fs.toList with
      | false => exact VON.none
      | true =>
        simp only [cond_true]
        obtain ⟨l, l1, l2, l3⟩ := run_mapM_fields (w := w) T fs.toList hs
        have hM : (fs.mapM (m := Sem) fun (f : Go.Field) => do pure (f.offset, ← Go.sizeOf f.type)).run P w = .ok l.toArray w := by
          rw [Array.mapM_eq_mapM_toList]
          simp only [Sem.run_map, l1, Result.andThen_ok]
        refine doFill_ok r hρ (pl' := fun j => l.toArray[j]?) (z2 c w) (fun j o n hj => ?_) fun ca' hca => ?_
        · unfold fieldPl at hj
          cases hf : fs[j]? with
          | none => rw [hf] at hj; cases hj
          | some f =>
            rw [hf] at hj
            obtain ⟨n', n1, n2⟩ := l3 j f (by rw [Array.getElem?_toList]; exact hf)
            dsimp only at hj
            rw [n1] at hj
            simp only [Option.some.injEq, Prod.mk.injEq] at hj
            obtain ⟨rfl, rfl⟩ := hj
            rw [List.getElem?_toArray]; exact n2
        · have hund := run_und Ti.und w
          rw [hd] at hund
          simp only [Instr.build, Sem.run_bind, z1, Result.andThen_ok, Sem.run_pure, hund, hM, hmap, hca]
    · rename_i n e hd
      cases hse : E.ty e with
      | none => simp only [sz, hse]; exact VON.none
      | some j =>
        simp only [sz, hse]
        refine doFill_ok r hρ (pl' := fun i => some (i * j.size, j.size)) (z2 c w) (fun _ _ _ hj => hj) fun ca' hca => ?_
        have hund := run_und Ti.und w
        rw [hd] at hund
        simp only [Instr.build, Sem.run_bind, z1, Result.andThen_ok, Sem.run_pure, hund, (T.ty e j hse).run_sizeOf, hmap, hca]
    · exact VON.none

theorem rep_succ (n : Nat) (l : List AV) : rep (n + 1) l = l ++ rep n l := rfl
theorem rep_zero (l : List AV) : rep 0 l = [] := rfl
theorem rep_length (n : Nat) (l : List AV) : (rep n l).length = n * l.length := by
  induction n with
  | zero => simp [rep_zero]
  | succ n ih => rw [rep_succ, List.length_append, ih, Nat.succ_mul, Nat.add_comm]
theorem rep_get {l : List AV} (hl : 0 < l.length) : ∀ (n j : Nat), j < n * l.length → (rep n l)[j]? = l[j % l.length]?
  | 0, j, h => by simp at h
  | n + 1, j, h => by
    rw [rep_succ]
    by_cases hj : j < l.length
    · rw [List.getElem?_append_left hj, Nat.mod_eq_of_lt hj]
    · rw [List.getElem?_append_right (by omega), rep_get hl n (j - l.length) (by rw [Nat.succ_mul] at h; omega)]
      congr 1
      exact (Nat.mod_eq_sub_mod (by omega)).symm

theorem zeros_ok {zero : List AV} {za : Array Value} (hz : crels c w zero za.toList) (n : Nat) (hp : 0 < zero.length) :
    crels c w (rep n zero) ((Array.range (n * zero.length)).map (za[· % za.size]!)).toList := by
  have hl := crels_length hz
  simp at hl
  rw [crels_iff]
  refine ⟨by simp [rep_length], fun j x hx => ?_⟩
  have hj : j < n * zero.length := by
    rcases Nat.lt_or_ge j (n * zero.length) with h | h
    · exact h
    · rw [List.getElem?_eq_none (by rw [rep_length]; exact h)] at hx; cases hx
  rw [rep_get hp n j hj] at hx
  obtain ⟨y, y1, y2⟩ := crels_get _ hz hx
  refine ⟨y, ?_, y2⟩
  rw [Array.getElem?_toList] at y1 ⊢
  have hm : j % za.size < za.size := Nat.mod_lt _ (by omega)
  simp only [Array.getElem?_map, Array.getElem?_range, hj, if_true, Option.map_some, Option.some.injEq]
  rw [← hl] at y1
  rw [Array.getElem?_eq_getElem hm, Option.some.injEq] at y1
  rw [← y1]
  exact getElem!_pos za (j % za.size) hm

theorem doBuildSlice_ok (T : TabOK P E) (r : HRel c h w) {nid : Nat} (hl : c.opn nid) (hg : h.bs.get nid = none) {tm : Tr AV} {ρ : Operand → Value} (hρ : ∀ x, crel c w (opnd tm x) (ρ x)) (t len : Nat) (parts : Array (Nat × Operand)) :
    VON P c h w (Instr.buildSlice t len (parts.map fun (i, x) => (i, ρ x))) (doBuildSlice E h nid tm t len parts) := by
  unfold doBuildSlice
  split
  · rename_i e sz0 by0 z0 a0 f0 ht
    have Ti := T.ty t _ ht
    cases he : E.ty e with
    | none => exact VON.none
    | some i =>
      have Te := T.ty e i he
      obtain ⟨z, z1, z2, z3, z4⟩ := Te.run_zero w
      dsimp only
      cases hb : (Nat.ble (len * i.size) 65536 && Nat.blt 0 i.size) with
      | false => exact VON.none
      | true =>
        simp only [Bool.and_eq_true] at hb
        have b1 := ble_t hb.1
        have b2 := blt_t hb.2
        simp only [cond_true]
        cases hp : partsA (fun j => some (j * i.size, i.size)) tm parts.toList with
        | none => exact VON.none
        | some ps =>
          dsimp only
          cases hf : fillA (rep len i.zero) ps with
          | none => exact VON.none
          | some cs =>
            rintro n h' e'
            simp only [Option.some.injEq, Prod.mk.injEq] at e'
            obtain ⟨rfl, rfl⟩ := e'
            have hzl := Te.zlen
            have hrz := zeros_ok (z2 c w) len (by omega)
            rw [hzl] at hrz
            obtain ⟨ca', f1, f2⟩ := fill_ok hρ parts.toList ps _ cs _ hp hf hrz
            have hmap : (parts.map fun (x : Nat × Operand) => (x.1, ρ x.2)).toList = parts.toList.map fun x => (x.1, ρ x.2) := by simp
            have hund := run_und Ti.und w
            have hrow := step_row r hl hg (rest := []) f2 e (arr := ca') (by simp)
            refine ⟨_, rfl, _, _, .slice (some ⟨w.heap.size, 0, none⟩) len len, hrow, ?_, ?_⟩
            · simp only [Instr.buildSlice, Sem.run_bind, hund, Result.andThen_ok, Te.run_sizeOf]
              rw [if_neg (by omega)]
              by_cases h0 : len * i.size = 0
              · rw [if_pos h0]
                rw [h0] at f1
                have : (Array.range (len * i.size)).map ((#[] : Array Value)[· % (#[] : Array Value).size]!) = (Array.range 0).map (z.cells[· % z.cells.size]!) := by rw [h0]; simp
                rw [Sem.run_bind, Sem.run_pure, Result.andThen_ok, this, hmap, f1]
                simp [newRow]
              · rw [if_neg h0]
                simp only [Sem.run_bind, z1, Result.andThen_ok, Sem.run_pure, hmap, f1]
                simp [newRow]
            · simp only [crel]
              refine ⟨w.heap.size, 0, len, add_loc _ _ _ _, rfl, Nat.le_refl _, by simp, e, ca'.size, by simp [World.shape?], ?_⟩
              have h1 := crels_length f2
              have h2 : cs.length = (rep len i.zero).length := by
                clear hrow f1 f2 h1
                generalize rep len i.zero = cells at hf
                clear hp
                induction ps generalizing cells with
                | nil => simp only [fillA, Option.some.injEq] at hf; subst hf; rfl
                | cons p ps ih =>
                  obtain ⟨off, n, vs⟩ := p
                  cases vs with
                  | none => simp [fillA] at hf
                  | some vs =>
                    simp only [fillA] at hf
                    obtain ⟨k1, k2⟩ := cond_some hf
                    simp only [Bool.and_eq_true] at k1
                    have e1 := beq_t k1.1
                    have e2 := ble_t k1.2
                    rw [ih _ k2, setAt_length (by omega)]
              rw [rep_length, hzl] at h2
              simp at h1
              omega
  · exact VON.none
end
end Rfx
