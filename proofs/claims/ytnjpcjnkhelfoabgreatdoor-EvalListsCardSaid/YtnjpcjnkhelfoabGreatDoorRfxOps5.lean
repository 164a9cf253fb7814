/- One operation, fifth part: conversions, places, parts, slices of slices, lengths. -/
import Derived.Test.YtnjpcjnkhelfoabGreatDoorRfxOps4
set_option linter.unusedSectionVars false
set_option linter.unusedVariables false
set_option linter.unusedSimpArgs false
set_option linter.unnecessarySimpa false
namespace Rfx
open Go
variable [Val]

section
variable {P : Program} {E : Env} {c : Cx} {h h' : AH} {w : World}

theorem doIface_ok (T : TabOK P E) (r : HRel c h w) {t : Nat} {x : AV} {xv : Value} (hx : crel c w x xv) : VON P c h w (Instr.makeInterface t xv) (doIface E h t x) := by
  unfold doIface
  cases ht : E.ty t with
  | none => exact VON.none
  | some i =>
    have Ti := T.ty t i ht
    have hu := run_und Ti.und w
    dsimp only
    split
    · exact VON.none
    · rename_i hne
      refine VON.val r (cv := .iface t xv) ?_ (by simp only [crel]; exact ⟨xv, rfl, hx⟩)
      simp only [Instr.makeInterface, Sem.run_bind, hu, Result.andThen_ok]
      rfl

theorem map_rel {tm : Tr AV} {ρ : Operand → Value} (hρ : ∀ x, crel c w (opnd tm x) (ρ x)) : ∀ l : List Operand, crels c w (l.map (opnd tm)) (l.map ρ)
  | [] => crels_nil
  | x :: l => crels_cons (hρ x) (map_rel hρ l)

theorem doFunc_ok (r : HRel c h w) {tm : Tr AV} {ρ : Operand → Value} (hρ : ∀ x, crel c w (opnd tm x) (ρ x)) (fn : Fn) (a b : Array Operand) : VON P c h w (Instr.makeFunc fn (a.map ρ) (b.map ρ)) (doFunc h tm fn a b) := by
  unfold doFunc
  split
  · refine VON.val r (cv := .func _ (a.map ρ) (b.map ρ)) rfl ?_
    simp only [crel]
    exact ⟨_, _, rfl, by simpa using map_rel hρ a.toList, by simpa using map_rel hρ b.toList⟩
  · exact VON.none

/-! conversions -/
theorem shape_push (w : World) (arr : Array Value) (e : TypeId) (fz : Nat × Nat) : World.shape? { w with heap := w.heap.push (.cells arr e fz) } w.heap.size = some (e, arr.size) := by
  simp [World.shape?]
theorem doConv_ok (T : TabOK P E) (r : HRel c h w) {nid : Nat} (s d : Nat) {x : AV} {xv : Value} (hx : crel c w x xv) (hl : c.opn nid) (hg : h.bs.get nid = none) :
    VON P c h w (convert s d xv) (doConv E h nid s d x) := by
  unfold doConv
  cases hs : E.ty s with
  | none => exact VON.none
  | some i =>
    cases hd : E.ty d with
    | none => exact VON.none
    | some j =>
      have us := run_und (T.ty s i hs).und w
      have ud := run_und (T.ty d j hd).und w
      dsimp only
      split
      · rename_i k k' n hj
        simp only [crel] at hx; subst hx
        rw [hj] at ud
        exact VON.val r (cv := .int k (k.wrap n)) (by simp only [convert, Sem.run_bind, us, ud, Result.andThen_ok, Conv.intToInt, Sem.run_pure]) (by simp [crel])
      · rename_i s' hj
        simp only [crel] at hx
        obtain ⟨b, rfl, hb⟩ := hx
        rw [hj] at ud
        exact VON.val r (cv := .string b) (by simp only [convert, Sem.run_bind, us, ud, Result.andThen_ok, Sem.run_pure]) (by simp only [crel]; exact ⟨b, rfl, hb⟩)
      · rename_i k n hj
        simp only [crel] at hx; subst hx
        rw [hj] at ud
        exact VON.val r (cv := .string (Utf8.encode n)) (by simp only [convert, Sem.run_bind, us, ud, Result.andThen_ok, Conv.intToString, Sem.run_pure]) (by simp only [crel]; exact ⟨_, rfl, rfl⟩)
      · rename_i e s' hj
        simp only [crel] at hx
        obtain ⟨b, rfl, hb⟩ := hx
        rw [hj] at ud
        rintro n h' e'
        obtain ⟨e1, e2⟩ := cond_some e'
        simp only [Bool.and_eq_true] at e1
        simp only [Option.some.injEq, Prod.mk.injEq] at e2
        obtain ⟨rfl, rfl⟩ := e2
        have he : P.underlying e = some (.int .u8) := by
          have := e1.1
          unfold isByte at this
          split at this
          · rename_i h1; exact (T.ty e _ h1).und
          · cases this
        -- the world behind the draw
        have hcut : ∃ k w1, (choose (.appendCap b.size 0 e)).run P w = .ok (b.size + k) w1 ∧ w1.heap = w.heap ∧ (w1.os = w.os ∧ w1.output = w.output) := by
          simp only [run_choose, Question.forced, Question.cut, Bool.false_eq_true, if_false]
          exact ⟨_, _, rfl, rfl, rfl, rfl⟩
        obtain ⟨k, w1, c1, c2, c3⟩ := hcut
        have s1 := Step.draw r c2 c3
        have hbs : crels c w1 (bytesAV s') (b.data.toList.map fun b => Value.int .u8 b.toNat) := by
          rw [← hb]
          generalize b.data.toList = l
          induction l with
          | nil => exact crels_nil
          | cons x l ih => exact crels_cons (by simp only [crel]) ih
        have hsz : ((b.data.map fun (b : UInt8) => Value.int .u8 b.toNat) ++ Array.replicate k (Value.int .u8 0)).size = b.size + k := by simp
        have s2 := step_rowF (s1.rel) hl hg (rest := List.replicate k (.int .u8 0)) hbs e (arr := (b.data.map fun b => Value.int .u8 b.toNat) ++ Array.replicate k (.int .u8 0)) (by simp)
          (b.size + k, b.size + k + 1) (fun off ho => by rw [hsz] at ho; simp; omega)
        have hmod : ∀ (H : Array Obj) (o : Obj) (f : Obj → Obj), (H.push o).modify H.size f = H.push (f o) := fun H o f => by
          apply Array.ext_getElem?
          intro m
          rw [Array.getElem?_modify, Array.getElem?_push, Array.getElem?_push]
          by_cases hm : H.size = m
          · subst hm; simp
          · rw [if_neg hm, if_neg (fun h => hm h.symm), if_neg (fun h => hm h.symm)]
        have hlen : b.size = s'.length := by rw [← hb]; simp
        refine ⟨_, rfl, _, _, .slice (some ⟨w1.heap.size, 0, none⟩) b.size (b.size + k), s1.trans s2, ?_, ?_⟩
        · simp only [convert, Sem.run_bind, us, ud, Result.andThen_ok, run_und he, Conv.stringToBytes, c1, Nat.add_sub_cancel_left, newRow, run_newObj, Sem.run_pure, markStringish, run_shape]
          rw [shape_push, hsz]
          simp only [run_freeze, World.freeze, if_false, hmod, beq_self_eq_true, if_true, Result.andThen_ok, Nat.one_ne_zero]
        · simp only [crel]
          refine ⟨w1.heap.size, 0, b.size + k, add_loc _ _ _ _, by rw [hlen], by omega, by simp, e, b.size + k, by simp [World.shape?, hsz], by omega⟩
      · exact VON.none

/-! places -/
theorem placeA_ok (r : HRel c h w) {x : AV} {xv : Value} {off : Nat} (hx : crel c w x xv) {n : AN} {h' : AH} (e : placeA h x off = some (n, h')) :
    ∃ b o v, xv = .pointer (some ⟨b, o, none⟩) ∧ n = .val v ∧ h' = h ∧ crel c w v (.pointer (some ⟨b, o + off, none⟩)) := by
  unfold placeA at e
  split at e
  · simp only [crel] at hx
    obtain ⟨b, base, h1, rfl⟩ := hx
    simp only [Option.some.injEq, Prod.mk.injEq] at e
    obtain ⟨rfl, rfl⟩ := e
    exact ⟨b, _, _, rfl, rfl, rfl, by simp only [crel]; exact ⟨b, base, h1, by rw [Nat.add_assoc]⟩⟩
  · simp only [crel] at hx
    obtain ⟨b, o, rfl, h1, h2⟩ := hx
    simp only [Option.some.injEq, Prod.mk.injEq] at e
    obtain ⟨rfl, rfl⟩ := e
    exact ⟨b, o, _, rfl, rfl, rfl, by simp only [crel]; exact ⟨b, _, rfl, h1, crelm_drop off h2⟩⟩
  · cases e

theorem doFieldAddr_ok (T : TabOK P E) (r : HRel c h w) {t f : Nat} {x : AV} {xv : Value} (hx : crel c w x xv) : VON P c h w (Instr.fieldAt t xv f) (doFieldAddr E h t x f) := by
  unfold doFieldAddr
  split
  · rename_i fs s1 b1 z1 a1 f1 ht
    have hu := run_und (T.ty t _ ht).und w
    cases hf : fs[f]? with
    | none => exact VON.none
    | some fd =>
      dsimp only
      cases hs : E.ty fd.type with
      | none => simp only [sz, hs]; exact VON.none
      | some j =>
        simp only [sz, hs]
        cases hb : Nat.blt 0 j.size with
        | false => exact VON.none
        | true =>
          simp only [cond_true]
          intro n h' e
          obtain ⟨b, o, v, rfl, rfl, rfl, hv⟩ := placeA_ok r hx e
          refine ⟨v, rfl, VOK.same r ?_ hv⟩
          have hne : ¬ j.size = 0 := by have := blt_t hb; omega
          simp only [Instr.fieldAt, Sem.run_bind, hu, Result.andThen_ok, hf, Instr.sureAddr, Sem.run_pure, fieldPlace, (T.ty _ _ hs).run_sizeOf, hne, if_false, add_none]
  · exact VON.none

theorem partA_ok (T : TabOK P E) (r : HRel c h w) {t : Nat} {i : TI} (ht : E.ty t = some i) {cs : List AV} {A : Array Value} {off : Nat} (hr : crels c w cs A.toList) : VON P c h w (part t A off) (partA h i cs off) := by
  unfold partA
  have Ti := T.ty t i ht
  cases e : takeN i.size (cs.drop off) with
  | none => exact VON.none
  | some l =>
    obtain ⟨h1, rfl⟩ := takeN_some e
    have hr' := crels_take i.size (crels_drop off hr)
    refine one1_ok r hr' (fun ha => ?_) (fun ha v hv => ?_)
    · simp only [part, Sem.run_bind, Ti.run_isAgg, Result.andThen_ok, ha, if_true, Ti.run_sizeOf, Sem.run_pure]
      congr 2
      apply Array.ext'
      simp [List.take_drop]
    · have hoff : A[off]? = some v := by
        have : ((A.toList.drop off).take i.size)[0]? = some v := by rw [hv]; rfl
        have hlen := congrArg List.length hv
        simp at hlen
        rw [List.getElem?_take_of_lt (by omega), List.getElem?_drop] at this
        simpa using this
      simp [part, Ti.run_isAgg, ha, hoff]

theorem doField_ok (T : TabOK P E) (r : HRel c h w) {t f : Nat} {x : AV} {xv : Value} (hx : crel c w x xv) : VON P c h w (Instr.field t xv f) (doField E h t x f) := by
  unfold doField
  split
  · rename_i fs s1 b1 z1 a1 f1 ht
    have hu := run_und (T.ty t _ ht).und w
    cases hf : fs[f]? with
    | none => exact VON.none
    | some fd =>
      dsimp only
      split
      · rename_i cs i hs
        simp only [crel] at hx
        obtain ⟨A, rfl, hr⟩ := hx
        intro n h' e
        obtain ⟨v, rfl, c', w', cv, k1, k2, k3⟩ := partA_ok T r hs hr n h' e
        refine ⟨v, rfl, c', w', cv, k1, ?_, k3⟩
        simp only [Instr.field, Sem.run_bind, hu, Result.andThen_ok, hf, asAgg, Sem.run_pure, k2]
      · exact VON.none
  · exact VON.none

theorem doIndexAddr_ok (T : TabOK P E) (r : HRel c h w) {t : Nat} {x i : AV} {xv iv : Value} (hx : crel c w x xv) (hi : crel c w i iv) : VON P c h w (Instr.indexAt t xv iv) (doIndexAddr E h t x i) := by
  unfold doIndexAddr
  cases hn : natOf i with
  | none => exact VON.none
  | some j =>
    obtain ⟨k, rfl⟩ := natOf_int hn
    simp only [crel] at hi; subst hi
    dsimp only
    split
    · rename_i e s1 b1 z1 a1 f1 ht
      have hu := run_und (T.ty t _ ht).und w
      cases hs : E.ty e with
      | none => simp only [sz, hs]; exact VON.none
      | some q =>
        simp only [sz, hs]
        have run : ∀ {b o len cp : Nat}, j < len → (Instr.indexAt t (.slice (some ⟨b, o, none⟩) len cp) (.int k (j : Int))).run P w = .ok (.pointer (some ⟨b, o + j * q.size, none⟩)) w := by
          intro b o len cp hj
          simp only [Instr.indexAt, asIntOf, Sem.run_bind, Sem.run_pure, Result.andThen_ok, hu]
          rw [if_pos ⟨by omega, by omega⟩]
          simp only [Sem.run_bind, (T.ty _ _ hs).run_sizeOf, Result.andThen_ok, Sem.run_pure, Int.toNat_natCast, add_none]
        split
        · rename_i q'
          simp only [crel] at hx
          obtain ⟨rfl, hle, hf, hw⟩ := hx
          cases hxa : E.xat q' j q.size with
          | none => exact VON.none
          | some cs =>
            obtain ⟨hj, hcs⟩ := T.xat _ _ _ _ hxa
            refine VON.val r (run hj) ?_
            simp only [crel]
            exact ⟨_, _, rfl, hf, hcs c w hw⟩
        unfold idxAt
        split
        · rename_i o off len cap s' _
          simp only [crel] at hx
          obtain ⟨b, base, cp, g1, rfl, g2, g3, ty, n, g4, g5⟩ := hx
          cases hb : (Nat.blt j len && Nat.beq s' q.size) with
          | false => exact VON.none
          | true =>
            simp only [Bool.and_eq_true] at hb
            refine VON.val r (run (blt_t hb.1)) ?_
            simp only [crel]
            exact ⟨b, base, g1, by rw [Nat.add_assoc]⟩
        · rename_i len full cs _
          simp only [crel] at hx
          obtain ⟨b, off, cp, rfl, g1, g2, g3, g4⟩ := hx
          cases hb : Nat.blt j len with
          | false => exact VON.none
          | true =>
            refine VON.val r (run (blt_t hb)) ?_
            simp only [crel]
            exact ⟨b, _, rfl, g3, crelm_drop _ g4⟩
        · exact VON.none
    · rename_i len e s1 b1 z1 a1 f1 ht
      have hu := run_und (T.ty t _ ht).und w
      cases hs : E.ty e with
      | none => simp only [sz, hs]; exact VON.none
      | some q =>
        simp only [sz, hs]
        cases hb : Nat.blt j len with
        | false => exact VON.none
        | true =>
          have hj := blt_t hb
          simp only [cond_true]
          intro n h' e'
          obtain ⟨b, o, v, rfl, rfl, rfl, hv⟩ := placeA_ok r hx e'
          refine ⟨v, rfl, VOK.same r ?_ hv⟩
          simp only [Instr.indexAt, asIntOf, Sem.run_bind, Sem.run_pure, Result.andThen_ok, hu, Instr.sureAddr]
          rw [if_pos ⟨by omega, by omega⟩]
          simp only [Sem.run_bind, (T.ty _ _ hs).run_sizeOf, Result.andThen_ok, Sem.run_pure, Int.toNat_natCast, add_none]
    · exact VON.none

theorem doIndex_ok (T : TabOK P E) (r : HRel c h w) {t : Nat} {x i : AV} {xv iv : Value} (hx : crel c w x xv) (hi : crel c w i iv) : VON P c h w (Instr.index t xv iv) (doIndex E h t x i) := by
  unfold doIndex
  cases hn : natOf i with
  | none => exact VON.none
  | some j =>
    obtain ⟨k, rfl⟩ := natOf_int hn
    simp only [crel] at hi; subst hi
    dsimp only
    split
    · rename_i s1 b1 z1 a1 f1 ht
      have hu := run_und (T.ty t _ ht).und w
      split
      · rename_i s
        simp only [crel] at hx
        obtain ⟨b, rfl, hb⟩ := hx
        cases hg : s[j]? with
        | none => exact VON.none
        | some u =>
          have hg' : ∃ q, b.data.toList[j]? = some q ∧ q.toNat = u := by
            rw [← hb, List.getElem?_map] at hg
            cases hq : b.data.toList[j]? with
            | none => rw [hq] at hg; simp at hg
            | some q => rw [hq] at hg; simp at hg; exact ⟨q, rfl, hg⟩
          obtain ⟨q, q1, rfl⟩ := hg'
          have hbj : b[j]? = some q := by
            have hlt : j < b.size := by
              rcases Nat.lt_or_ge j b.size with h | h
              · exact h
              · rw [List.getElem?_eq_none (by simpa using h)] at q1; cases q1
            rw [getElem?_pos b j hlt]
            have : b.data.toList[j]? = some (b[j]) := by rw [List.getElem?_eq_getElem (by simpa using hlt)]; rfl
            rw [this] at q1; exact q1
          refine VON.val r (cv := .int .u8 q.toNat) ?_ (by simp [crel])
          simp only [Instr.index, asIntOf, Sem.run_bind, Sem.run_pure, Result.andThen_ok, hu]
          simp [hbj]
      · exact VON.none
    · rename_i len e s1 b1 z1 a1 f1 ht
      have hu := run_und (T.ty t _ ht).und w
      split
      · rename_i cs q hs
        simp only [crel] at hx
        obtain ⟨A, rfl, hr⟩ := hx
        cases hb : Nat.blt j len with
        | false => exact VON.none
        | true =>
          have hj := blt_t hb
          simp only [cond_true]
          intro n h' e'
          obtain ⟨v, rfl, c', w', cv, k1, k2, k3⟩ := partA_ok T r hs hr n h' e'
          refine ⟨v, rfl, c', w', cv, k1, ?_, k3⟩
          simp only [Instr.index, asIntOf, Sem.run_bind, Sem.run_pure, Result.andThen_ok, hu]
          rw [if_pos ⟨by omega, by omega⟩]
          simp only [Sem.run_bind, (T.ty _ _ hs).run_sizeOf, Result.andThen_ok, Int.toNat_natCast, k2]
      · exact VON.none
    · exact VON.none

theorem doExtract_ok (r : HRel c h w) {x : AV} {xv : Value} {i : Nat} (hx : crel c w x xv) : VON P c h w (Instr.extract xv i) (doExtract h x i) := by
  unfold doExtract
  split
  · rename_i vs
    simp only [crel] at hx
    obtain ⟨A, rfl, hr⟩ := hx
    cases hg : vs[i]? with
    | none => exact VON.none
    | some v =>
      obtain ⟨y, y1, y2⟩ := crels_get _ hr hg
      rw [Array.getElem?_toList] at y1
      exact VON.val r (by simp only [Instr.extract, y1, Sem.run_pure]) y2
  · exact VON.none

theorem zeroVal_ok (T : TabOK P E) {t : Nat} {i : TI} (ht : E.ty t = some i) {z : AV} (e : zeroVal i = some z) : ∃ zv, (zeroValue t).run P w = .ok zv w ∧ crel c w z zv := by
  obtain ⟨zv, z1, z2, z3, z4⟩ := (T.ty t i ht).run_zero w
  refine ⟨zv, z1, ?_⟩
  unfold zeroVal at e
  cases ha : i.agg with
  | true =>
    rw [ha] at e
    simp only [cond_true, Option.some.injEq] at e
    subst e
    obtain ⟨A, rfl⟩ := z3 ha
    simp only [crel]
    exact ⟨A, rfl, by simpa [Value.cells] using z2 c w⟩
  | false =>
    rw [ha] at e
    simp only [cond_false] at e
    split at e
    · rename_i v hz
      cases e
      have h2 := z2 c w
      rw [hz, z4 ha] at h2
      obtain ⟨u, hu, hv⟩ := crels_of_one h2
      simp at hu; subst hu; exact hv
    · cases e

theorem doAssert_ok (T : TabOK P E) (r : HRel c h w) {t t0 : Nat} {x : AV} {xv : Value} {ok : Bool} (hx : crel c w x xv) : VON P c h w (Instr.typeAssert xv t0 t ok) (doAssert E h x t ok) := by
  unfold doAssert
  cases ht : E.ty t with
  | none => exact VON.none
  | some i =>
    have hu := run_und (T.ty t i ht).und w
    dsimp only
    split
    · exact VON.none
    · rename_i hne
      split
      · rename_i u v
        simp only [crel] at hx
        obtain ⟨y, rfl, hy⟩ := hx
        have run : ∀ {q : Result Value}, (if u = t then (pure (if ok then .tuple #[y, .bool true] else y) : Sem Value) else
            (if ok then (do pure (.tuple #[← zeroValue t, .bool false])) else runtimePanic (.typeAssertion (some t0) (some u) t ""))).run P w = q → (Instr.typeAssert (.iface u y) t0 t ok).run P w = q := by
          intro q hq
          rw [← hq]
          simp only [Instr.typeAssert, Sem.run_bind, hu, Result.andThen_ok]
        cases hb : Nat.beq u t with
        | true =>
          have := beq_t hb
          subst this
          simp only [cond_true]
          cases ok with
          | true =>
            refine VON.val r (cv := .tuple #[y, .bool true]) (run (by simp)) ?_
            simp only [cond_true, crel]
            exact ⟨_, rfl, crels_cons hy (crels_one (by simp [crel]))⟩
          | false =>
            refine VON.val r (cv := y) (run (by simp)) ?_
            simpa only [cond_false] using hy
        | false =>
          have hne' : ¬ u = t := by rintro rfl; simp at hb
          simp only [cond_false]
          cases ok with
          | true =>
            simp only [cond_true]
            cases hz : zeroVal i with
            | none => exact VON.none
            | some z =>
              obtain ⟨zv, z1, z2⟩ := zeroVal_ok (P := P) (c := c) (w := w) T ht hz
              refine VON.val r (cv := .tuple #[zv, .bool false]) (run (by simp [hne', z1])) ?_
              simp only [crel]
              exact ⟨_, rfl, crels_cons z2 (crels_one (by simp [crel]))⟩
          | false => exact VON.none
      · exact VON.none
end
end Rfx
