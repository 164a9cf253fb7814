/- One operation: append. -/
import Derived.Test.YtnjpcjnkhelfoabGreatDoorRfxOps6
set_option linter.unusedSectionVars false
set_option linter.unusedVariables false
set_option linter.unusedSimpArgs false
set_option linter.unnecessarySimpa false
namespace Rfx
open Go
variable [Val]

section
variable {P : Program} {E : Env} {c : Cx} {h h' : AH} {w : World}

/-- an id dies and another one takes its block, which is written -/
theorem Step.reuse (r : HRel c h w) {o b base off : Nat} {B : AB} {w' : World} (ho : live h o) (hl : c.loc o = some (b, base))
    (ho' : w'.os = w.os ∧ w'.output = w.output) (hs : w'.heap.size = w.heap.size) (hk : ∀ i, i ≠ b → w'.heap[i]? = w.heap[i]?) (hsh : ∀ s, w.shape? b = some s → w'.shape? b = some s)
    (hB : Mono c w (c.add h.next b (base + off)) w' → BRel (c.add h.next b (base + off)) w' (base + off) b B) :
    Step c h w (c.add h.next b (base + off)) ((⟨h.next, h.bs.del o⟩ : AH).put h.next B) w' := by
  have hfr := r.fresh h.next (Nat.le_refl _)
  have hm : Mono c w (c.add h.next b (base + off)) w' := by
    refine ⟨fun i x e => ?_, fun _ e => e, fun i hi => hk i (by rintro rfl; exact r.nfz o i base ho hl hi), fun i s hs' => ?_⟩
    · simp only [Cx.add]; rw [if_neg (by rintro rfl; rw [hfr.1.1] at e; cases e)]; exact e
    · by_cases e : i = b
      · subst e; exact hsh s hs'
      · simpa only [World.shape?, hk i e] using hs'
  have hget : ∀ i, i ≠ h.next → i ≠ o → ((⟨h.next, h.bs.del o⟩ : AH).put h.next B).bs.get i = h.bs.get i := fun i h1 h2 => by
    simp only [AH.put]; rw [Tr.get_set_ne _ _ (fun e => h1 e.symm), Tr.get_del_ne _ (fun e => h2 e.symm)]
  have hno : o ≠ h.next := by rintro rfl; exact ho hfr.2
  have hdead : ((⟨h.next, h.bs.del o⟩ : AH).put h.next B).bs.get o = none := by
    simp only [AH.put]; rw [Tr.get_set_ne _ _ (fun e => hno e.symm), Tr.get_del_same]
  have hnew : ((⟨h.next, h.bs.del o⟩ : AH).put h.next B).bs.get h.next = some B := by simp only [AH.put]; exact Tr.get_set_same _ _ _
  have hlive : ∀ i, live ((⟨h.next, h.bs.del o⟩ : AH).put h.next B) i → i = h.next ∨ (i ≠ h.next ∧ i ≠ o ∧ live h i) := fun i hi => by
    by_cases e : i = h.next
    · exact .inl e
    · by_cases e2 : i = o
      · subst e2; exact absurd hdead hi
      · exact .inr ⟨e, e2, by unfold live at *; rwa [hget i e e2] at hi⟩
  refine ⟨HRel.of_get ?_ ?_ ?_ ?_ ?_ ?_ ⟨by rw [hs]; exact r.bse.1, ho'.1.trans r.bse.2.1, ho'.2.trans r.bse.2.2⟩, hm.loc, fun _ e => e, hm.shape, by omega, fun i hi hn => hk i (by rintro rfl; exact hn o base ho hl), fun _ e => .inl e, ?_, bump_le _ _, fun i e => ⟨e, by simp only [Cx.add]; rw [if_neg (by rintro rfl; exact hfr.1.2 e)]⟩, rfl⟩
  · intro i C hi
    rcases hlive i (by unfold live; rw [hi]; simp) with rfl | ⟨h1, h2, h3⟩
    · rw [hnew] at hi; cases hi
      exact ⟨b, base + off, add_loc _ _ _ _, hB hm⟩
    · rw [hget i h1 h2] at hi
      obtain ⟨b', base', k1, k2⟩ := r.get hi
      refine ⟨b', base', hm.loc _ _ k1, k2.mono hm (hk b' ?_)⟩
      rintro rfl
      exact h2 (r.inj i o b' base' base h3 ho k1 hl)
  · intro i j x y z hi hj ei ej
    simp only [Cx.add] at ei ej
    rcases hlive i hi with rfl | ⟨h1, h2, h3⟩
    · rcases hlive j hj with rfl | ⟨k1, k2, k3⟩
      · rfl
      · rw [if_pos rfl] at ei; rw [if_neg k1] at ej
        obtain ⟨rfl, _⟩ := Prod.mk.inj (Option.some.inj ei)
        exact absurd (r.inj j o b z base k3 ho ej hl) k2
    · rcases hlive j hj with rfl | ⟨k1, k2, k3⟩
      · rw [if_pos rfl] at ej; rw [if_neg h1] at ei
        obtain ⟨rfl, _⟩ := Prod.mk.inj (Option.some.inj ej)
        exact absurd (r.inj i o b y base h3 ho ei hl) h2
      · rw [if_neg h1] at ei; rw [if_neg k1] at ej
        exact r.inj i j x y z h3 k3 ei ej
  · intro i x y hi ei hf
    simp only [Cx.add] at ei hf
    rcases hlive i hi with rfl | ⟨h1, h2, h3⟩
    · rw [if_pos rfl] at ei
      obtain ⟨rfl, _⟩ := Prod.mk.inj (Option.some.inj ei)
      exact r.nfz o b base ho hl hf
    · rw [if_neg h1] at ei; exact r.nfz i x y h3 ei hf
  · intro i hi
    have h1 : h.next < i := Nat.lt_of_lt_of_le (lt_bump h.next h.next) hi
    have := r.fresh i (by omega)
    refine ⟨⟨by simp only [Cx.add]; rw [if_neg (by omega)]; exact this.1.1, this.1.2⟩, ?_⟩
    rw [hget i (by omega) (by rintro rfl; exact ho this.2)]; exact this.2
  · intro i x y e
    rw [hs]
    simp only [Cx.add] at e
    by_cases ni : i = h.next
    · rw [if_pos ni] at e; obtain ⟨rfl, _⟩ := Prod.mk.inj (Option.some.inj e); exact r.lt o b base hl
    · rw [if_neg ni] at e; exact r.lt i x y e
  · exact fun x e => by rw [hs]; exact r.flt x e
  · intro i x y hi e
    simp only [Cx.add] at e
    rcases hlive i hi with rfl | ⟨h1, h2, h3⟩
    · rw [if_pos rfl] at e
      obtain ⟨rfl, _⟩ := Prod.mk.inj (Option.some.inj e)
      exact .inl ⟨o, base, ho, hl⟩
    · rw [if_neg h1] at e; exact .inl ⟨i, y, h3, e⟩

/-! how much a new array may hold -/
theorem growBy_le (n M : Nat) (hM : n + (n + 768) / 4 ≤ M) : ∀ (r c : Nat), c ≤ M → Builtin.growBy n r c ≤ M
  | 0, c, hc => hc
  | r + 1, c, hc => by
    unfold Builtin.growBy
    split
    · exact hc
    · exact growBy_le n M hM r _ (by omega)
theorem next_le {n o : Nat} (ho : o < n) : Builtin.nextslicecap n o ≤ 2 * n + 1024 := by
  unfold Builtin.nextslicecap
  split
  · omega
  · split
    · omega
    · exact growBy_le n _ (by omega) 4 o (by omega)

theorem roomFor_ok {n bytes : Nat} (hr : roomFor n bytes = true) : (n + 1024) * bytes ≤ 1099511627776 ∧ 0 < bytes := by
  simp only [roomFor, Bool.and_eq_true] at hr
  exact ⟨ble_t hr.1, blt_t hr.2⟩

theorem room_mul {x n b B : Nat} (h1 : (n + 1024) * b ≤ B) (h2 : x ≤ 2 * n + 1024) : x * b ≤ 2 * B := by
  have h0 : x ≤ 2 * (n + 1024) := Nat.le_trans h2 (by rw [Nat.mul_add]; exact Nat.add_le_add_left (by decide) _)
  refine Nat.le_trans (Nat.mul_le_mul_right b h0) ?_
  rw [Nat.mul_assoc]
  exact Nat.mul_le_mul_left 2 h1
theorem room_next {n o bytes : Nat} (hr : roomFor n bytes = true) (ho : o < n) : ¬ Builtin.nextslicecap n o * bytes > 2 ^ 48 :=
  Nat.not_lt.2 (Nat.le_trans (room_mul (roomFor_ok hr).1 (next_le ho)) (by simp))

/-! what is added -/
structure Adds (P : Program) (w : World) (xv : Value) (size n : Nat) (vs : List Value) : Prop where
  len : (Builtin.lenOf xv).run P w = .ok n w
  first : ∀ w1 : World, w1.heap = w.heap → (Builtin.firstCells size n xv).run P w1 = .ok vs.toArray w1

theorem cells_heap {w w1 : World} (e : w1.heap = w.heap) (a : Addr) : w1.cell? a = w.cell? a := by simp only [World.cell?, e]

theorem run_first {b off size n : Nat} {vs : List Value} (hn : vs.length = n * size) (hc : ∀ j v, vs[j]? = some v → w.cell? ⟨b, off + j, none⟩ = some v) (len cp : Nat) :
    ∀ w1 : World, w1.heap = w.heap → (Builtin.firstCells size n (.slice (some ⟨b, off, none⟩) len cp)).run P w1 = .ok vs.toArray w1 := fun w1 e => by
  simp only [Builtin.firstCells]
  exact run_cells hn fun j v hv => by rw [cells_heap e]; exact hc j v hv

theorem sliceCells_ok (r : HRel c h w) {x : AV} {xv : Value} {size n : Nat} {cs : List AV} (e : sliceCells h (n * size) x = some cs) (hx : crel c w x xv) :
    ∃ vs : List Value, crels c w cs vs ∧ ∀ w1 : World, w1.heap = w.heap → (Builtin.firstCells size n xv).run P w1 = .ok vs.toArray w1 := by
  cases x <;> simp only [sliceCells] at e <;> (try (cases e; done))
  · obtain ⟨k1, k2⟩ := cond_some e
    cases k2
    simp only [crel] at hx; subst hx
    exact ⟨[], crels_nil, fun w1 _ => rfl⟩
  · rename_i o off len cap sz
    simp only [crel] at hx
    obtain ⟨b, base, cp, g1, rfl, _⟩ := hx
    obtain ⟨hl, b', off', vs, hp, h1, h2⟩ := readPtr_ok (cv := .pointer (some ⟨b, base + off, none⟩)) r e (by simp only [crel]; exact ⟨b, base, g1, rfl⟩)
    simp only [Value.pointer.injEq, Option.some.injEq, Addr.mk.injEq, and_true] at hp
    obtain ⟨rfl, rfl⟩ := hp
    exact ⟨vs, h1, run_first ((crels_length h1).trans hl) h2 _ _⟩
  · obtain ⟨k1, k2⟩ := cond_some e
    cases k2
    simp only [crel] at hx
    obtain ⟨a, cp, rfl⟩ := hx
    refine ⟨[], crels_nil, fun w1 _ => ?_⟩
    have := beq_t k1
    simp only [Builtin.firstCells, this]
    rfl
  · rename_i len full row
    simp only [crel] at hx
    obtain ⟨b, off, cp, rfl, _, _, g3, g4⟩ := hx
    obtain ⟨h1, rfl⟩ := takeN_some e
    obtain ⟨vs, v1, v2⟩ := crelm_vals (crelm_take (n * size) g4)
    refine ⟨vs, v1, run_first ?_ v2 _ _⟩
    rw [crels_length v1, List.length_take]; omega

theorem added_ok (r : HRel c h w) {x : AV} {xv : Value} {size n : Nat} {new : List AV} (e : added h size x = some (n, new)) (hx : crel c w x xv) :
    ∃ vs, crels c w new vs ∧ Adds P w xv size n vs ∧ new.length = n * size := by
  unfold added at e
  split at e
  · simp only [Option.some.injEq, Prod.mk.injEq] at e
    obtain ⟨rfl, rfl⟩ := e
    simp only [crel] at hx; subst hx
    exact ⟨[], crels_nil, ⟨rfl, fun _ _ => rfl⟩, by simp⟩
  · simp only [Option.some.injEq, Prod.mk.injEq] at e
    obtain ⟨rfl, rfl⟩ := e
    simp only [crel] at hx
    obtain ⟨a, cp, rfl⟩ := hx
    refine ⟨[], crels_nil, ⟨rfl, fun w1 _ => ?_⟩, by simp⟩
    simp only [Builtin.firstCells, Nat.zero_mul]
    rfl
  · rename_i o off len cap sz
    cases hc : sliceCells h (len * size) (.sl o off len cap sz) with
    | none => rw [hc] at e; cases e
    | some cs =>
      rw [hc] at e
      simp only [Option.some.injEq, Prod.mk.injEq] at e
      obtain ⟨rfl, rfl⟩ := e
      obtain ⟨vs, v1, v2⟩ := sliceCells_ok (P := P) r hc hx
      have hlen : cs.length = len * size := by
        simp only [sliceCells] at hc
        have hx' := hx
        simp only [crel] at hx'
        obtain ⟨b, base, cp, g1, rfl, _⟩ := hx'
        exact (readPtr_ok (cv := .pointer (some ⟨b, base + off, none⟩)) r hc (by simp only [crel]; exact ⟨b, base, g1, rfl⟩)).1
      refine ⟨vs, v1, ⟨?_, v2⟩, hlen⟩
      simp only [crel] at hx
      obtain ⟨b, base, cp, _, rfl, _⟩ := hx
      rfl
  · rename_i len full row
    cases hc : takeN (len * size) row with
    | none => rw [hc] at e; cases e
    | some cs =>
      rw [hc] at e
      simp only [Option.some.injEq, Prod.mk.injEq] at e
      obtain ⟨rfl, rfl⟩ := e
      obtain ⟨vs, v1, v2⟩ := sliceCells_ok (P := P) (size := size) (n := len) (x := .fsl len full row) r (by simpa only [sliceCells] using hc) hx
      refine ⟨vs, v1, ⟨?_, v2⟩, by obtain ⟨h1, rfl⟩ := takeN_some hc; rw [List.length_take]; omega⟩
      simp only [crel] at hx
      obtain ⟨b, off, cp, rfl, _⟩ := hx
      rfl
  · cases e

/-! the run of append -/
section run
variable {ts : Array TypeId} {ty t e : TypeId} {i : TI} {base : Option Addr} {len cp n : Nat} {xv : Value} {vs old : List Value}

theorem run_zeros (T : TabOK P E) (hs : isSliceT E ts[1]? = true) : ∃ xt, ts[1]? = some xt ∧ ∃ e', ∀ w : World, (underlying xt).run P w = .ok (.slice e') w := by
  cases h1 : ts[1]? with
  | none => rw [h1] at hs; simp [isSliceT] at hs
  | some xt =>
    rw [h1] at hs
    simp only [isSliceT] at hs
    split at hs
    · rename_i e' s1 b1 z1 a1 f1 ht
      exact ⟨xt, rfl, e', fun w => run_und (T.ty xt _ ht).und w⟩
    · cases hs

theorem append_stay (T : TabOK P E) (h0 : ts[0]? = some t) (hu : P.underlying t = some (.slice e)) (he : E.ty e = some i) (hs : isSliceT E ts[1]? = true) (ha : Adds P w xv i.size n vs) (hle : len + n ≤ cp) {w' : World}
    (hst : (match base with | some a => storeCells (a.add (len * i.size)) vs | none => pure ()).run P w = .ok () w') :
    (Builtin.append_ ts ty #[.slice base len cp, xv]).run P w = .ok (.slice base (len + n) cp) w' := by
  obtain ⟨xt, x1, e', d1⟩ := run_zeros (P := P) T hs
  have rs := (T.ty _ _ he).run_sizeOf (w := w)
  unfold Builtin.append_
  simp only [h0, x1, List.getElem?_toArray, List.getElem?_cons_zero, List.getElem?_cons_succ, Sem.run_bind, run_und hu, Result.andThen_ok, rs, d1, Sem.run_pure, Bool.false_eq_true, if_false, ha.len, hle, if_true, Bool.not_false, ha.first w rfl]
  cases base with
  | none => simp at hst; subst hst; simp
  | some a => simp at hst; simp [hst]

theorem append_new (T : TabOK P E) (h0 : ts[0]? = some t) (hu : P.underlying t = some (.slice e)) (he : E.ty e = some i) (hs : isSliceT E ts[1]? = true) (ha : Adds P w xv i.size n vs) (hle : cp < len + n)
    (hroom : roomFor (len + n) i.bytes = true) (hold : ∀ w1 : World, w1.heap = w.heap → (Builtin.firstCells i.size len (.slice base len cp)).run P w1 = .ok old.toArray w1) :
    ∃ (w1 : World) (k : Nat) (rest : List Value), (w1.heap = w.heap ∧ (w1.os = w.os ∧ w1.output = w.output)) ∧ rest.length = k * i.size ∧
      (Builtin.append_ ts ty #[.slice base len cp, xv]).run P w = .ok (.slice (some ⟨w1.heap.size, 0, none⟩) (len + n) (len + n + k)) { w1 with heap := w1.heap.push (.cells (old.toArray ++ vs.toArray ++ rest.toArray) e) } := by
  obtain ⟨xt, x1, e', d1⟩ := run_zeros (P := P) T hs
  have Te := T.ty _ _ he
  have rs := Te.run_sizeOf (w := w)
  obtain ⟨info, i1, i2, i3⟩ := Te.run_bytes w
  let w1 : World := { w with drawn := w.drawn + 1 }
  let k := w.tape w.drawn (.appendCap (len + n) cp e) % (2 ^ 63 - (len + n))
  obtain ⟨info', i1', i2', _⟩ := Te.run_bytes w1
  obtain ⟨z, z1, z2, _⟩ := Te.run_zero w1
  have hzs : z.cells.size = i.size := by
    have := crels_length (z2 ⟨fun _ => none, fun _ => False, fun _ => False, 0⟩ w)
    rw [Te.zlen] at this; simpa using this
  refine ⟨w1, k, (Builtin.zeroCells z.cells k).toList, ⟨rfl, rfl, rfl⟩, by simp [Builtin.zeroCells, hzs], ?_⟩
  have hbig : ¬ (((len + n : Nat) : Int) > IntKind.i64.max ∧ (False ∨ info.bytes = 0)) := by
    rintro ⟨h1, h2 | h2⟩
    · exact h2
    · have := (roomFor_ok hroom).2; omega
  have hnext : ¬ Builtin.nextslicecap (len + n) cp * info.bytes > 2 ^ 48 := by rw [i2]; exact room_next hroom hle
  have hch : (choose (.appendCap (len + n) cp e)).run P w = .ok (len + n + k) w1 := by
    simp only [run_choose, Question.forced, Question.cut, Bool.false_eq_true, if_false]; rfl
  unfold Builtin.append_
  simp only [h0, x1, List.getElem?_toArray, List.getElem?_cons_zero, List.getElem?_cons_succ, Sem.run_bind, run_und hu, Result.andThen_ok, rs, d1, Sem.run_pure, Bool.false_eq_true, if_false, ha.len, Nat.not_le.2 hle, i1, Bool.not_false, if_true]
  rw [if_neg hbig]
  simp only [Sem.run_bind, i1, Result.andThen_ok]
  rw [if_neg hnext]
  simp only [Sem.run_bind, hch, Result.andThen_ok, i1', run_askRoom, hold w1 rfl, ha.first w1 rfl, z1, newRow, run_newObj, Sem.run_pure, Nat.add_sub_cancel_left]
end run

theorem zeroCells_rel {c : Cx} {w : World} {l : List AV} {z : Array Value} (hz : crels c w l z.toList) : ∀ n, crels c w (rep n l) (Builtin.zeroCells z n).toList := by
  intro n
  have hl : (Builtin.zeroCells z n).toList = (List.range (n * z.size)).map fun k => z[k % z.size]! := by simp [Builtin.zeroCells, List.range]
  rw [hl]
  clear hl
  induction n with
  | zero => simp only [Nat.zero_mul, List.range_zero, List.map_nil]; exact crels_nil
  | succ n ih =>
    have h1 : (n + 1) * z.size = z.size + n * z.size := by rw [Nat.add_mul]; omega
    rw [h1, List.range_add, List.map_append, List.map_map]
    have h2 : (List.range z.size).map (fun k => z[k % z.size]!) = z.toList := by
      apply List.ext_getElem
      · simp
      · intro k hk1 hk2
        simp only [List.length_map, List.length_range] at hk1
        simp [Nat.mod_eq_of_lt hk1, hk1]
    have h3 : (List.range (n * z.size)).map ((fun k => z[k % z.size]!) ∘ fun x => z.size + x) = (List.range (n * z.size)).map fun k => z[k % z.size]! := by
      apply List.map_congr_left
      intro k _
      simp
    rw [h2, h3]
    exact crels_append hz ih

theorem append_make {ts : Array TypeId} {ty t e : TypeId} {i : TI} {n : Nat} (T : TabOK P E) (h0 : ts[0]? = some t) (hu : P.underlying t = some (.slice e)) (he : E.ty e = some i) (hs : isIntT E ts[1]? = true) {k : IntKind} (hroom : roomFor n i.bytes = true) (hn : 0 < n) (c : Cx) :
    ∃ (w1 : World) (m : Nat) (vs rest : List Value), (w1.heap = w.heap ∧ (w1.os = w.os ∧ w1.output = w.output)) ∧ rest.length = m * i.size ∧ vs.length = n * i.size ∧ crels c w1 (rep n i.zero) vs ∧
      (Builtin.append_ ts ty #[.slice none 0 0, .int k (n : Int)]).run P w = .ok (.slice (some ⟨w1.heap.size, 0, none⟩) n (n + m)) { w1 with heap := w1.heap.push (.cells (vs.toArray ++ rest.toArray) e) } := by
  obtain ⟨xt, x1, kk, d1⟩ : ∃ xt, ts[1]? = some xt ∧ ∃ kk, ∀ w : World, (underlying xt).run P w = .ok (.int kk) w := by
    cases h1 : ts[1]? with
    | none => rw [h1] at hs; simp [isIntT] at hs
    | some xt =>
      rw [h1] at hs
      simp only [isIntT] at hs
      split at hs
      · rename_i kk s1 b1 z1 a1 f1 ht
        exact ⟨xt, rfl, kk, fun w => run_und (T.ty xt _ ht).und w⟩
      · cases hs
  have Te := T.ty _ _ he
  have rs := Te.run_sizeOf (w := w)
  obtain ⟨info, i1, i2, i3⟩ := Te.run_bytes w
  let w1 : World := { w with drawn := w.drawn + 1 }
  let m := w.tape w.drawn (.appendCap n 0 e) % (2 ^ 63 - n)
  obtain ⟨info', i1', i2', _⟩ := Te.run_bytes w1
  obtain ⟨z, z1, z2, _⟩ := Te.run_zero w1
  have hzs : z.cells.size = i.size := by
    have := crels_length (z2 ⟨fun _ => none, fun _ => False, fun _ => False, 0⟩ w)
    rw [Te.zlen] at this; simpa using this
  have hroom' := roomFor_ok hroom
  have h3 : n + 1024 ≤ 1099511627776 := Nat.le_trans (Nat.le_mul_of_pos_right _ hroom'.2) hroom'.1
  have h5 : n * i.bytes ≤ 1099511627776 := Nat.le_trans (Nat.mul_le_mul_right _ (Nat.le_add_right _ _)) hroom'.1
  clear hroom'
  have hwrap : IntKind.i64.wrap (n : Int) = (n : Int) := by
    have h1 : ((n : Int) % (2 ^ 64 : Int)) = (n : Int) := Int.emod_eq_of_lt (by omega) (by omega)
    unfold IntKind.wrap
    show (if (true && decide ((n : Int) % (2 ^ 64 : Int) ≥ (2 ^ 63 : Int))) = true then _ else (n : Int) % (2 ^ 64 : Int)) = _
    rw [h1, if_neg]
    simp only [Bool.true_and, decide_eq_true_eq]
    omega
  refine ⟨w1, m, (Builtin.zeroCells z.cells n).toList, (Builtin.zeroCells z.cells m).toList, ⟨rfl, rfl, rfl⟩, by simp [Builtin.zeroCells, hzs], by simp [Builtin.zeroCells, hzs], zeroCells_rel (z2 c w1) n, ?_⟩
  have hneg : ¬ ((n : Int) < 0) := by omega
  have hbytes : ¬ ((n : Int) * (info.bytes : Int) > 2 ^ 48) := by
    rw [i2, ← Int.natCast_mul]
    exact Int.not_lt.2 (Int.le_trans (Int.ofNat_le.2 h5) (by decide))
  have hbig : ¬ (((n : Nat) : Int) > IntKind.i64.max ∧ (True ∨ info.bytes = 0)) := by
    rintro ⟨h1, _⟩
    have h6 : IntKind.i64.max = 9223372036854775807 := by decide
    rw [h6] at h1
    omega
  have hnext : ¬ Builtin.nextslicecap n 0 * info.bytes > 2 ^ 48 := by rw [i2]; exact room_next hroom hn
  have hch : (choose (.appendCap n 0 e)).run P w = .ok (n + m) w1 := by
    simp only [run_choose, Question.forced, Question.cut, Bool.false_eq_true, if_false]; rfl
  have hz0 : (if n * i.size = 0 then (pure #[] : Sem (Array Value)) else do pure (Builtin.zeroCells (← zeroValue e).cells n)).run P w1 = .ok (Builtin.zeroCells z.cells n) w1 := by
    split
    · rename_i h
      have : Builtin.zeroCells z.cells n = #[] := by simp [Builtin.zeroCells, hzs, h]
      rw [this]; rfl
    · simp only [Sem.run_bind, z1, Result.andThen_ok, Sem.run_pure]
  unfold Builtin.append_
  simp only [h0, x1, List.getElem?_toArray, List.getElem?_cons_zero, List.getElem?_cons_succ, Sem.run_bind, run_und hu, Result.andThen_ok, rs, d1, Sem.run_pure, if_true, asInt, asIntOf, hwrap, if_neg hneg, i1, if_neg hbytes, Int.toNat_natCast, Nat.zero_add, Nat.not_le.2 hn, if_false, Bool.not_true, Bool.false_eq_true]
  rw [if_neg hbig]
  simp only [Sem.run_bind, i1, Result.andThen_ok]
  rw [if_neg hnext]
  simp only [Sem.run_bind, hch, Result.andThen_ok, i1', run_askRoom, Sem.run_pure, newRow, run_newObj, Nat.add_sub_cancel_left]
  have hf : (Builtin.firstCells i.size 0 (.slice none 0 0)).run P w1 = .ok #[] w1 := rfl
  rw [hf]
  simp only [Result.andThen_ok]
  rw [hz0]
  simp only [Result.andThen_ok, z1]
  simp

theorem append_make0 {ts : Array TypeId} {ty t e : TypeId} {i : TI} (T : TabOK P E) (h0 : ts[0]? = some t) (hu : P.underlying t = some (.slice e)) (he : E.ty e = some i) (hs : isIntT E ts[1]? = true) {k : IntKind} :
    (Builtin.append_ ts ty #[.slice none 0 0, .int k ((0 : Nat) : Int)]).run P w = .ok (.slice none 0 0) w := by
  obtain ⟨xt, x1, kk, d1⟩ : ∃ xt, ts[1]? = some xt ∧ ∃ kk, ∀ w : World, (underlying xt).run P w = .ok (.int kk) w := by
    cases h1 : ts[1]? with
    | none => rw [h1] at hs; simp [isIntT] at hs
    | some xt =>
      rw [h1] at hs
      simp only [isIntT] at hs
      split at hs
      · rename_i kk s1 b1 z1 a1 f1 ht
        exact ⟨xt, rfl, kk, fun w => run_und (T.ty xt _ ht).und w⟩
      · cases hs
  have Te := T.ty _ _ he
  have rs := Te.run_sizeOf (w := w)
  obtain ⟨info, i1, i2, i3⟩ := Te.run_bytes w
  have hwrap : IntKind.i64.wrap ((0 : Nat) : Int) = 0 := rfl
  have hb : ¬ ((0 : Int) * (info.bytes : Int) > 2 ^ 48) := by rw [Int.zero_mul]; decide
  unfold Builtin.append_
  simp only [h0, x1, List.getElem?_toArray, List.getElem?_cons_zero, List.getElem?_cons_succ, Sem.run_bind, run_und hu, Result.andThen_ok, rs, d1, Sem.run_pure, if_true, asInt, asIntOf, hwrap, i1, if_neg hb, Int.lt_irrefl, if_false, Int.toNat_zero, Nat.zero_mul, Nat.le_refl, Bool.not_true, Bool.false_eq_true]

theorem grow_ok (r : HRel c h w) {sz len n k : Nat} {cs : List AV} {arr : Array Value} {e : TypeId} {vs rest : List Value} (hr : crels c w cs vs) (ha : arr.toList = vs ++ rest) (hlen : vs.length = len * sz) (hrest : rest.length = k * sz) (hn : len = n)
    {s : Sem Value} {w0 : World} (hs : s.run P w0 = .ok (.slice (some ⟨w.heap.size, 0, none⟩) n (n + k)) { w with heap := w.heap.push (.cells arr e) })
    {c0 : Cx} {h0 : AH} (st : Step c0 h0 w0 c h w) {m : AN} {h' : AH} (he : grow h h.next sz n cs = some (m, h')) : ∃ v, m = .val v ∧ VOK P c0 h0 w0 s v h' := by
  subst hn
  simp only [grow, Option.some.injEq, Prod.mk.injEq] at he
  obtain ⟨rfl, rfl⟩ := he
  have hf := r.fresh h.next (Nat.le_refl _)
  have s2 := step_row r hf.1 hf.2 hr e ha
  refine ⟨_, rfl, _, _, _, st.trans s2, hs, ?_⟩
  have hsz : arr.size = (len + k) * sz := by
    rw [← Array.length_toList, ha, List.length_append, hlen, hrest, Nat.add_mul]
  simp only [crel]
  exact ⟨w.heap.size, 0, len + k, add_loc _ _ _ _, rfl, by omega, by simp, e, arr.size, by simp [World.shape?], by rw [hsz]; omega⟩

theorem doAppend_ok (T : TabOK P E) (r : HRel c h w) (ts : Array TypeId) (ty : TypeId) {s x : AV} {sv xv : Value} (hs : crel c w s sv) (hx : crel c w x xv) :
    VON P c h w (Builtin.append_ ts ty #[sv, xv]) (doAppend E h ts[0]? ts[1]? s x) := by
  unfold doAppend
  cases h0 : ts[0]? with
  | none => exact VON.none
  | some t =>
    dsimp only
    split
    · rename_i e s1 b1 z1 a1 f1 ht
      have hu := (T.ty t _ ht).und
      cases he : E.ty e with
      | none => exact VON.none
      | some i =>
        dsimp only
        cases hsl : isSliceT E ts[1]? with
        | false =>
          simp only [cond_false]
          cases hit : isIntT E ts[1]? with
          | false => exact VON.none
          | true =>
            simp only [cond_true]
            unfold makeApp
            split
            · rename_i kk n
              simp only [crel] at hs hx
              subst hs; subst hx
              cases hn : Nat.beq n 0 with
              | true =>
                have hn0 := beq_t hn
                subst hn0
                simp only [cond_true]
                refine VON.val r (cv := .slice none 0 0) ?_ (by simp [crel])
                exact append_make0 T h0 hu he hit
              | false =>
                simp only [cond_false]
                cases hr : roomFor n i.bytes with
                | false => exact VON.none
                | true =>
                  simp only [cond_true]
                  have hn0 : 0 < n := by rcases Nat.eq_zero_or_pos n with h | h; · subst h; simp at hn
                                         · exact h
                  obtain ⟨w1, k, vs, rest, k1, k2, k3, k4, k5⟩ := append_make (ty := ty) (w := w) T h0 hu he hit (k := kk) hr hn0 c
                  have sd := Step.draw r k1.1 k1.2
                  intro m h' hg
                  exact grow_ok (len := n) (e := e) sd.rel k4 (rest := rest) (by simp) k3 k2 rfl k5 sd hg
            · exact VON.none
        | true =>
          simp only [cond_true]
          cases had : added h i.size x with
          | none => exact VON.none
          | some nn =>
            obtain ⟨n, new⟩ := nn
            obtain ⟨vs, v1, v2, v3⟩ := added_ok (P := P) r had hx
            have hvl : vs.length = n * i.size := (crels_length v1).trans v3
            dsimp only
            -- nothing is added
            have stay0 : ∀ {base : Option Addr} {len cp : Nat}, n = 0 → len ≤ cp → (Builtin.append_ ts ty #[.slice base len cp, xv]).run P w = .ok (.slice base len cp) w := by
              intro base len cp hn hle
              subst hn
              have hnil : vs = [] := List.length_eq_zero_iff.1 (by rw [hvl]; simp)
              subst hnil
              have := append_stay (ty := ty) (w' := w) (base := base) (len := len) (cp := cp) T h0 hu he hsl v2 (by omega) (by cases base <;> rfl)
              simpa using this
            unfold appendTo
            split
            · -- nil
              simp only [crel] at hs; subst hs
              cases hn : Nat.beq n 0 with
              | true => exact VON.val r (cv := .slice none 0 0) (stay0 (beq_t hn) (Nat.le_refl _)) (by simp [crel])
              | false =>
                simp only [cond_false]
                cases hr : roomFor n i.bytes with
                | false => exact VON.none
                | true =>
                  simp only [cond_true]
                  have hn0 : 0 < n := by rcases Nat.eq_zero_or_pos n with h | h; · subst h; simp at hn
                                         · exact h
                  obtain ⟨w1, k, rest, k1, k2, k3⟩ := append_new (ty := ty) (base := none) (len := 0) (cp := 0) (old := []) T h0 hu he hsl v2 (by omega) (by simpa using hr) (fun w1 _ => rfl)
                  have sd := Step.draw r k1.1 k1.2
                  intro m h' hg
                  simp only [Nat.zero_add] at k3
                  exact grow_ok (len := n) (e := e) sd.rel (crels_mono (sd.mono r) _ _ v1) (rest := rest) (by simp) hvl k2 rfl k3 sd hg
            · -- frozen, full
              rename_i len cs
              have hs' := hs
              simp only [crel] at hs
              obtain ⟨b, off, cp, rfl, g1, g2, g3, g4⟩ := hs
              have hcp := (g2 trivial).symm
              subst hcp
              cases hn : Nat.beq n 0 with
              | true => exact VON.val r (stay0 (beq_t hn) (Nat.le_refl _)) hs'
              | false =>
                simp only [cond_false]
                cases htk : takeN (len * i.size) cs with
                | none => exact VON.none
                | some old =>
                  dsimp only
                  cases hr : roomFor (len + n) i.bytes with
                  | false => exact VON.none
                  | true =>
                    simp only [cond_true]
                    have hn0 : 0 < n := by rcases Nat.eq_zero_or_pos n with h | h; · subst h; simp at hn
                                           · exact h
                    obtain ⟨ov, o1, o2⟩ := sliceCells_ok (P := P) (size := i.size) (n := len) (x := .fsl len true cs) r (by simpa only [sliceCells] using htk) hs'
                    have hol : ov.length = len * i.size := by
                      rw [crels_length o1]; obtain ⟨h1, rfl⟩ := takeN_some htk; rw [List.length_take]; omega
                    obtain ⟨w1, k, rest, k1, k2, k3⟩ := append_new (ty := ty) T h0 hu he hsl v2 (by omega) hr o2
                    have sd := Step.draw r k1.1 k1.2
                    intro m h' hg
                    refine grow_ok (len := len + n) sd.rel (crels_mono (sd.mono r) _ _ (crels_append o1 v1)) (rest := rest) (by simp) (by rw [List.length_append, hol, hvl, Nat.add_mul]) k2 rfl k3 sd hg
            · -- own, cap known
              rename_i o off len cc s'
              have hs' := hs
              simp only [crel] at hs
              obtain ⟨b, base, cp, g1, rfl, g2, g3, tyy, kk, g4, g5⟩ := hs
              have hcp := g3 _ rfl
              subst hcp
              cases hn : Nat.beq n 0 with
              | true => exact VON.val r (stay0 (beq_t hn) g2) hs'
              | false =>
                simp only [cond_false]
                cases htk : sliceCells h (len * i.size) (.sl o off len (some cp) s') with
                | none => exact VON.none
                | some old =>
                  dsimp only
                  cases hr : (roomFor (len + n) i.bytes && (Nat.beq s' i.size && Nat.beq cp len)) with
                  | false => exact VON.none
                  | true =>
                    simp only [Bool.and_eq_true] at hr
                    obtain ⟨hr, hss, hcl⟩ := hr
                    have := beq_t hcl
                    subst this
                    simp only [cond_true]
                    have hn0 : 0 < n := by rcases Nat.eq_zero_or_pos n with h | h; · subst h; simp at hn
                                           · exact h
                    obtain ⟨ov, o1, o2⟩ := sliceCells_ok (P := P) r htk hs'
                    have hol : ov.length = cp * i.size := by
                      rw [crels_length o1]
                      simp only [sliceCells] at htk
                      exact (readPtr_ok (cv := .pointer (some ⟨b, base + off, none⟩)) r htk (by simp only [crel]; exact ⟨b, base, g1, rfl⟩)).1
                    obtain ⟨w1, k, rest, k1, k2, k3⟩ := append_new (ty := ty) T h0 hu he hsl v2 (by omega) hr o2
                    have sd := Step.draw r k1.1 k1.2
                    intro m h' hg
                    refine grow_ok (len := cp + n) sd.rel (crels_mono (sd.mono r) _ _ (crels_append o1 v1)) (rest := rest) (by simp) (by rw [List.length_append, hol, hvl, Nat.add_mul]) k2 rfl k3 sd hg
            · -- own, cap not known
              rename_i o off len s'
              have hs' := hs
              simp only [crel] at hs
              obtain ⟨b, base, cp, g1, rfl, g2, g3, tyy, kk, g4, g5⟩ := hs
              cases hn : Nat.beq n 0 with
              | true => exact VON.val r (stay0 (beq_t hn) g2) hs'
              | false =>
                simp only [cond_false]
                cases htk : sliceCells h (len * i.size) (.sl o off len none s') with
                | none => exact VON.none
                | some old =>
                  dsimp only
                  cases hr : (roomFor (len + n) i.bytes && (Nat.beq s' i.size && allOne new)) with
                  | false => exact VON.none
                  | true =>
                    simp only [Bool.and_eq_true] at hr
                    obtain ⟨hr, hss, hcl⟩ := hr
                    have := beq_t hss
                    subst this
                    simp only [cond_true]
                    have hn0 : 0 < n := by rcases Nat.eq_zero_or_pos n with h | h; · subst h; simp at hn
                                           · exact h
                    have hrd := htk
                    simp only [sliceCells] at hrd
                    obtain ⟨ol, b2, off2, ov, e1, o1, e3⟩ := readPtr_ok (cv := .pointer (some ⟨b, base + off, none⟩)) r hrd (by simp only [crel]; exact ⟨b, base, g1, rfl⟩)
                    simp only [Value.pointer.injEq, Option.some.injEq, Addr.mk.injEq, and_true] at e1
                    obtain ⟨rfl, rfl⟩ := e1
                    have hol : ov.length = len * i.size := (crels_length o1).trans ol
                    have o2 := run_first (P := P) (size := i.size) (n := len) hol e3 len cp
                    have hlv : live h o := by
                      simp only [readPtr] at hrd
                      cases hc : h.cells o with
                      | none => rw [hc] at hrd; cases hrd
                      | some row => unfold live; rw [r.row hc]; simp
                    by_cases hfit : len + n ≤ cp
                    · -- in place
                      obtain ⟨row, hrow⟩ : ∃ row, h.cells o = some row := by
                        simp only [readPtr] at hrd
                        cases hc : h.cells o with
                        | none => rw [hc] at hrd; cases hrd
                        | some row => exact ⟨row, rfl⟩
                      obtain ⟨b', base', arr, aty, fz, q1, q2, q3, q4, q5⟩ := r.cells o row (r.row hrow)
                      obtain ⟨rfl, rfl⟩ := Prod.mk.inj (Option.some.inj (q1.symm.trans g1))
                      have hsh : kk = arr.size := by
                        simp only [World.shape?, q2, Option.some.injEq, Prod.mk.injEq] at g4
                        exact g4.2.symm
                      have hcpn : (len + n) * i.size ≤ cp * i.size := Nat.mul_le_mul_right _ hfit
                      rw [Nat.add_mul] at hcpn
                      have hvone : ∀ v ∈ vs, v.oneCell' = true := allOne_ok hcl v1
                      obtain ⟨w', cur', t1, t2, t3, t4, t5, t6, t7⟩ := run_store_cells (P := P) b' (base' + off + len * i.size) aty fz vs 0 arr w q2 q3 (by omega) hvone
                      intro m h' hg
                      simp only [grow, Option.some.injEq, Prod.mk.injEq] at hg
                      obtain ⟨rfl, rfl⟩ := hg
                      refine ⟨_, rfl, c.add h.next b' (base' + off), w', .slice (some ⟨b', base' + off, none⟩) (len + n) cp, ?_, ?_, ?_⟩
                      · refine Step.reuse r (off := off) hlv q1 t7 t6 t5 (fun s hs => by simp only [World.shape?, q2, t2, t3] at hs ⊢; exact hs) fun mm => ?_
                        refine ⟨cur', aty, fz, t2, fun k hk => q3 k (by omega), ?_, ?_⟩
                        · have hcells := crels_append o1 v1
                          refine crelm_of (crels_mono mm _ _ hcells) fun j v hv => ?_
                          rw [cell_of t2, t4]
                          have hjl : j < len * i.size + n * i.size := by
                            rcases Nat.lt_or_ge j (len * i.size + n * i.size) with h | h
                            · exact h
                            · rw [List.getElem?_eq_none (by rw [List.length_append, hol, hvl]; exact h)] at hv; cases hv
                          by_cases hj : j < len * i.size
                          · rw [if_neg (by omega)]
                            rw [List.getElem?_append_left (by omega)] at hv
                            have := e3 j v hv
                            rw [cell_of q2] at this
                            exact this
                          · rw [List.getElem?_append_right (by omega), hol] at hv
                            rw [if_pos (by omega), ← hv]
                            congr 1; omega
                        · rw [t3, List.length_append, ← crels_length o1, ← crels_length v1, hol, hvl]; omega
                      · refine append_stay T h0 hu he hsl v2 hfit ?_
                        simpa using t1
                      · simp only [crel]
                        refine ⟨b', base' + off, cp, add_loc _ _ _ _, by simp, hfit, by simp, aty, arr.size, ?_, by omega⟩
                        simp only [World.shape?, t2, t3]
                    · -- a new array
                      obtain ⟨w1, k, rest, k1, k2, k3⟩ := append_new (ty := ty) T h0 hu he hsl v2 (by omega) hr o2
                      have sd := Step.draw r k1.1 k1.2
                      have sx := Step.drop sd.rel o False False.elim
                      have st := sd.trans sx
                      intro m h' hg
                      refine grow_ok (len := len + n) st.rel (crels_mono (st.mono r) _ _ (crels_append o1 v1)) (rest := rest) (by simp) (by rw [List.length_append, hol, hvl, Nat.add_mul]) k2 rfl k3 st hg
            · exact VON.none
    · exact VON.none
end
end Rfx
