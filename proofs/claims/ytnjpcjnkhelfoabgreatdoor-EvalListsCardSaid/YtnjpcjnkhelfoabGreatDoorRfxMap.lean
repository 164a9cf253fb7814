/- One operation: maps with keys that are numbers or texts. -/
import Derived.Test.YtnjpcjnkhelfoabGreatDoorRfxApp
set_option linter.unusedSectionVars false
set_option linter.unusedVariables false
set_option linter.unusedSimpArgs false
set_option linter.unnecessarySimpa false
namespace Rfx
open Go
variable [Val]

section
variable {P : Program} {E : Env} {c : Cx} {h h' : AH} {w : World}

theorem bytes_beq (a b : ByteArray) : (a == b) = (a.data.toList.map (·.toNat) == b.data.toList.map (·.toNat)) := by
  show (a.data == b.data) = _
  rw [Bool.eq_iff_iff]
  simp only [beq_iff_eq, map_toNat_inj]
  exact ⟨fun h => by rw [h], fun h => Array.ext' h⟩

/-- what a key's type is -/
def KeyD (E : Env) (t : Nat) (d : TypeDesc) : Prop := ∃ i, E.ty t = some i ∧ i.d = d

theorem keyFits_ok {t : Nat} {k : AV} (hf : keyFits E t k = true) : (∃ kd n, KeyD E t (.int kd) ∧ k = .int kd n) ∨ (∃ s, KeyD E t .string ∧ k = .str s) := by
  unfold keyFits at hf
  split at hf
  · rename_i kd s1 b1 z1 a1 f1 k' n ht
    have := of_decide_eq_true hf
    subst this
    exact .inl ⟨_, _, ⟨_, ht, rfl⟩, rfl⟩
  · rename_i s1 b1 z1 a1 f1 s ht
    exact .inr ⟨_, ⟨_, ht, rfl⟩, rfl⟩
  · cases hf

theorem same_ok {t : Nat} {i : TI} (ht : E.ty t = some i) {k a : AV} (hk : keyFits E t k = true) (ha : keyFits E t a = true) {kv av : Value} (rk : crel c w k kv) (ra : crel c w a av) :
    Instr.sameNow i.d kv av = some (AV.beq k a) ∧ (AV.beq k a = true → Instr.sameBits 10000 av kv = true) ∧ (∀ e n, Instr.checkKey e (n + 1) t kv = (do match ← underlying t, kv with | _, _ => pure ()) ∨ True) := by
  rcases keyFits_ok hk with ⟨kd, n, ⟨j, j1, j2⟩, rfl⟩ | ⟨s, ⟨j, j1, j2⟩, rfl⟩
  · rw [ht] at j1; cases j1
    rcases keyFits_ok ha with ⟨kd', m, ⟨j', k1, k2⟩, rfl⟩ | ⟨s', ⟨j', k1, k2⟩, rfl⟩
    · rw [ht] at k1; cases k1
      rw [j2] at k2; cases k2
      simp only [crel] at rk ra; subst rk; subst ra
      refine ⟨?_, fun hb => ?_, fun _ _ => .inr trivial⟩
      · rw [j2]; simp only [Instr.sameNow, if_true, AV.beq, decide_true, Bool.true_and]
        congr 1
      · simp only [AV.beq, decide_true, Bool.true_and, decide_eq_true_eq] at hb
        subst hb
        simp [Instr.sameBits]
    · rw [ht] at k1; cases k1
      rw [j2] at k2; cases k2
  · rw [ht] at j1; cases j1
    rcases keyFits_ok ha with ⟨kd', m, ⟨j', k1, k2⟩, rfl⟩ | ⟨s', ⟨j', k1, k2⟩, rfl⟩
    · rw [ht] at k1; cases k1
      rw [j2] at k2; cases k2
    · simp only [crel] at rk ra
      obtain ⟨x, rfl, hx⟩ := rk
      obtain ⟨y, rfl, hy⟩ := ra
      refine ⟨?_, fun hb => ?_, fun _ _ => .inr trivial⟩
      · rw [j2]; simp only [Instr.sameNow, AV.beq]
        rw [bytes_beq, hx, hy]
      · simp only [AV.beq] at hb
        have : (y == x) = true := by rw [bytes_beq, hx, hy]; simp only [beq_iff_eq] at hb ⊢; exact hb.symm
        simpa [Instr.sameBits] using this

theorem run_checkKey (T : TabOK P E) {t : Nat} {k : AV} (hk : keyFits E t k = true) {kv : Value} (rk : crel c w k kv) (e : Bool) (n : Nat) : (Instr.checkKey e (n + 1) t kv).run P w = .ok () w := by
  rcases keyFits_ok hk with ⟨kd, m, ⟨j, j1, j2⟩, rfl⟩ | ⟨s, ⟨j, j1, j2⟩, rfl⟩
  · have hu := run_und (T.ty t j j1).und w
    rw [j2] at hu
    simp only [crel] at rk; subst rk
    simp [Instr.checkKey, hu]
  · have hu := run_und (T.ty t j j1).und w
    rw [j2] at hu
    simp only [crel] at rk
    obtain ⟨x, rfl, _⟩ := rk
    simp [Instr.checkKey, hu]

theorem find_ok {t : Nat} {i : TI} (ht : E.ty t = some i) {k : AV} (hk : keyFits E t k = true) {kv : Value} (rk : crel c w k kv) :
    ∀ (es : List (AV × AV)) (L : List MapEntry) (n : Nat), keysFit E t es = true → crelE c w es L →
      (∀ v, lookupA k es = some v → ∃ j e, L[j]? = some e ∧ Instr.findNow i.d kv L n = some (some (n + j, e.val)) ∧ crel c w v e.val ∧ Instr.sameBits 10000 e.key kv = true ∧
        ∀ v' vv, crel c w v' vv → crelE c w (updateA k v' es) (L.modify j fun e => { e with key := kv, val := vv })) ∧
      (lookupA k es = none → Instr.findNow i.d kv L n = some none ∧ ∀ v' vv clk, crel c w v' vv → crelE c w (updateA k v' es) (L ++ [{ key := kv, val := vv, born := clk }]))
  | [], L, n, _, hr => by
    simp only [crelE] at hr; subst hr
    refine ⟨fun v hv => by simp [lookupA] at hv, fun _ => ⟨rfl, fun v' vv clk hv => ?_⟩⟩
    exact ⟨_, [], rfl, rk, hv, rfl⟩
  | (a, b) :: es, L, n, hf, hr => by
    obtain ⟨e, L', rfl, r1, r2, r3⟩ := hr
    simp only [keysFit, Bool.and_eq_true] at hf
    obtain ⟨s1, s2, _⟩ := same_ok ht hk hf.1 rk r1
    obtain ⟨ih1, ih2⟩ := find_ok ht hk rk es L' (n + 1) hf.2 r3
    cases hb : AV.beq k a with
    | true =>
      refine ⟨fun v hv => ?_, fun hv => ?_⟩
      · simp only [lookupA, hb, cond_true, Option.some.injEq] at hv
        subst hv
        refine ⟨0, e, rfl, ?_, r2, s2 hb, fun v' vv hv => ?_⟩
        · simp only [Instr.findNow, s1, hb]; rfl
        · simp only [updateA, hb, cond_true]
          exact ⟨_, L', rfl, rk, hv, r3⟩
      · simp [lookupA, hb] at hv
    | false =>
      refine ⟨fun v hv => ?_, fun hv => ?_⟩
      · simp only [lookupA, hb, cond_false] at hv
        obtain ⟨j, e', j1, j2, j3, j4, j5⟩ := ih1 v hv
        refine ⟨j + 1, e', by simpa using j1, ?_, j3, j4, fun v' vv hv => ?_⟩
        · simp only [Instr.findNow, s1, hb, j2]
          congr 3; omega
        · simp only [updateA, hb, cond_false]
          exact ⟨e, _, by simp, r1, r2, j5 v' vv hv⟩
      · simp only [lookupA, hb, cond_false] at hv
        obtain ⟨j1, j2⟩ := ih2 hv
        refine ⟨by simp only [Instr.findNow, s1, hb, j1], fun v' vv clk hv => ?_⟩
        simp only [updateA, hb, cond_false]
        exact ⟨e, _, by simp, r1, r2, j2 v' vv clk hv⟩

theorem doMapUpd_ok (T : TabOK P E) (r : HRel c h w) {t : Nat} {m k v : AV} {mv kv vv : Value} (hm : crel c w m mv) (hk : crel c w k kv) (hv : crel c w v vv) :
    UON P c h w (Instr.mapUpdate t mv kv vv) (doMapUpd E h t m k v) := by
  unfold doMapUpd
  split
  · rename_i key el s1 b1 z1 a1 f1 ht
    have hu := run_und (T.ty t _ ht).und w
    split
    · rename_i o
      simp only [crel] at hm
      obtain ⟨b, g1, rfl⟩ := hm
      split
      · rename_i es hes
        obtain ⟨b', L, clk, q1, q2, q3⟩ := r.maps o es hes
        rw [g1] at q1
        obtain ⟨rfl, _⟩ := Prod.mk.inj (Option.some.inj q1)
        intro n h1 e
        obtain ⟨e1, e2⟩ := cond_some e
        simp only [Bool.and_eq_true] at e1
        simp only [Option.some.injEq, Prod.mk.injEq] at e2
        obtain ⟨rfl, rfl⟩ := e2
        refine ⟨rfl, ?_⟩
        obtain ⟨i, hi⟩ : ∃ i, E.ty key = some i := by
          rcases keyFits_ok e1.1 with ⟨_, _, ⟨j, j1, _⟩, _⟩ | ⟨_, ⟨j, j1, _⟩, _⟩ <;> exact ⟨j, j1⟩
        have hku := run_und (T.ty key i hi).und w
        obtain ⟨f1, f2⟩ := find_ok (c := c) (w := w) hi e1.1 hk es L.toList 0 e1.2 q3
        have hget : (getObj b).run P w = .ok (.map L clk) w := by simp [getObj, Sem.run, q2]
        have hck := run_checkKey (P := P) T e1.1 hk false 9999
        have hbs : b < w.heap.size := r.lt o b 0 g1
        have hset : ∀ O : Obj, (setObj b O).run P w = .ok () { w with heap := w.heap.setIfInBounds b O } := fun O => by simp [setObj, Sem.run, q2]
        have hstep : ∀ (L' : Array MapEntry) (clk' : Nat), (Mono c w c { w with heap := w.heap.setIfInBounds b (.map L' clk') } → crelE c { w with heap := w.heap.setIfInBounds b (.map L' clk') } (updateA k v es) L'.toList) →
            Step c h w c ⟨h.next, h.bs.set o (.map (updateA k v es))⟩ { w with heap := w.heap.setIfInBounds b (.map L' clk') } := fun L' clk' hr => by
          refine Step.write r (base := 0) (by unfold live; rw [hes]; simp) g1 ⟨rfl, rfl⟩ (by simp) (fun j hj => by show (w.heap.setIfInBounds b _)[j]? = _; rw [Array.getElem?_setIfInBounds, if_neg (fun h : b = j => hj h.symm)]) (fun s hs => by simp [World.shape?, q2] at hs) fun mm => ⟨rfl, L', clk', ?_, hr mm⟩
          simp [hbs]
        cases hlk : lookupA k es with
        | some u =>
          obtain ⟨j, en, j1, j2, j3, j4, j5⟩ := f1 u hlk
          rw [Array.getElem?_toList] at j1
          simp only [Nat.zero_add] at j2
          refine ⟨c, _, hstep (L.modify j fun e => { e with key := kv, val := vv }) clk (fun mm => ?_), ?_⟩
          · have := crelE_mono mm (j5 v vv hv)
            rwa [Array.toList_modify]
          · simp only [Instr.mapUpdate, Sem.run_bind, hu, Result.andThen_ok, hget, hck, Instr.findKey, hku, j2, Sem.run_pure, j1, Option.map_some, Option.getD_some, Instr.keyThatStays, j4, if_true, hset]
        | none =>
          obtain ⟨j1, j2⟩ := f2 hlk
          refine ⟨c, _, hstep (L.push { key := kv, val := vv, born := clk }) (clk + 1) (fun mm => ?_), ?_⟩
          · have := crelE_mono mm (j2 v vv clk hv)
            rwa [Array.toList_push]
          · simp only [Instr.mapUpdate, Sem.run_bind, hu, Result.andThen_ok, hget, hck, Instr.findKey, hku, j1, Sem.run_pure, hset]
      · exact UON.none
    · exact UON.none
  · exact UON.none

theorem found_ok (r : HRel c h w) {ok is : Bool} {v : AV} {vv : Value} (hv : crel c w v vv) {s : Sem Value} (hs : s.run P w = .ok (if ok then .tuple #[vv, .bool is] else vv) w) : VON P c h w s (found h ok v is) := by
  unfold found
  cases ok with
  | true =>
    refine VON.val r hs ?_
    simp only [cond_true, if_true, crel]
    exact ⟨_, rfl, crels_cons hv (crels_one (by simp [crel]))⟩
  | false => exact VON.val r hs hv

theorem symMissAll_ok (T : TabOK P E) {kt : Nat} {kd : IntKind} {k : AV} {m : Int} (hk : crel c w k (.int kd m)) {d : TypeDesc} (hd : d = .int kd) :
    ∀ (es : List (AV × AV)) (L : List MapEntry) (n : Nat), symMissAll E kt kd k es = true → crelE c w es L → Instr.findNow d (.int kd m) L n = some none
  | [], L, n, _, hr => by simp only [crelE] at hr; subst hr; rfl
  | (a, b) :: es, L, n, hf, hr => by
    obtain ⟨e, L', rfl, r1, r2, r3⟩ := hr
    unfold symMissAll at hf
    split at hf
    · rename_i heq; cases heq
    · rename_i kd' j q r heq
      obtain ⟨heq1, rfl⟩ := List.cons.inj heq
      obtain ⟨rfl, rfl⟩ := Prod.mk.inj heq1
      simp only [Bool.and_eq_true, decide_eq_true_eq] at hf
      obtain ⟨rfl, h2, h3⟩ := hf
      have ih := symMissAll_ok T hk hd es L' (n + 1) h3 r3
      simp only [crel] at r1
      have hne : m ≠ j := by
        split at h2
        · rename_i bb hs
          obtain ⟨_, cv, k2, k3⟩ := T.sym _ _ _ _ _ hs c w _ _ hk (show crel c w (.int kd' j) (.int kd' j) by simp [crel])
          simp only [crel] at k3
          obtain ⟨cv', q1, q2⟩ := intBin_ok (P := P) (c := c) (w := w) (t := kt) (op := .eql) (k := kd') (a := m) (b := j) rfl rfl
          rw [k2] at q1
          cases q1
          rw [k3] at q2
          simp only [crel, Value.bool.injEq] at q2
          rintro rfl
          rw [q2] at h2
          simp at h2
        · cases h2
      have hsm : Instr.sameNow d (.int kd' m) e.key = some false := by
        rw [hd, r1]
        simp only [Instr.sameNow, if_true]
        congr 1
        simpa using hne
      simp only [Instr.findNow, hsm, ih]
    · cases hf

theorem doLookup_ok (T : TabOK P E) (r : HRel c h w) {t : Nat} {m k : AV} {mv kv : Value} {ok : Bool} (hm : crel c w m mv) (hk : crel c w k kv) :
    VON P c h w (Instr.lookup t mv kv ok) (doLookup E h t m k ok) := by
  unfold doLookup
  split
  · rename_i key el s1 b1 z1 a1 f1 ht
    have hu := run_und (T.ty t _ ht).und w
    split
    · rename_i o
      simp only [crel] at hm
      obtain ⟨b, g1, rfl⟩ := hm
      split
      · rename_i es hes
        obtain ⟨b', L, clk, q1, q2, q3⟩ := r.maps o es hes
        rw [g1] at q1
        obtain ⟨rfl, _⟩ := Prod.mk.inj (Option.some.inj q1)
        cases hfit : (keyFits E key k && keysFit E key es) with
        | false =>
          simp only [cond_false]
          cases hsm : symMiss E key k es with
          | false => exact VON.none
          | true =>
            simp only [cond_true]
            unfold symMiss at hsm
            split at hsm
            · rename_i kd jj
              split at hsm
              · rename_i kd' s2 b2 z2 a2 f2 hkt
                simp only [Bool.and_eq_true, decide_eq_true_eq] at hsm
                obtain ⟨rfl, hsm⟩ := hsm
                have hku := run_und (T.ty key _ hkt).und w
                have hk' := hk
                simp only [crel] at hk'
                subst hk'
                have j1 := symMissAll_ok (c := c) (w := w) T hk (d := .int kd') rfl es L.toList 0 hsm q3
                have hget : (getObj b).run P w = .ok (.map L clk) w := by simp [getObj, Sem.run, q2]
                have hck : ∀ e n, (Instr.checkKey e (n + 1) key (.int kd' (Val.val jj))).run P w = .ok () w := fun e n => by simp [Instr.checkKey, hku]
                have hck := hck L.isEmpty 9999
                cases hel : E.ty el with
                | none => exact VON.none
                | some q =>
                  dsimp only
                  cases hz : zeroVal q with
                  | none => exact VON.none
                  | some z =>
                    obtain ⟨zv, z1', z2'⟩ := zeroVal_ok (P := P) (c := c) (w := w) T hel hz
                    refine found_ok r z2' ?_
                    simp only [Instr.lookup, Sem.run_bind, hu, Result.andThen_ok, hget, Sem.run_pure, hck, Instr.findKey, hku, j1, z1']
              · cases hsm
            · cases hsm
        | true =>
          simp only [Bool.and_eq_true] at hfit
          simp only [cond_true]
          obtain ⟨i, hi⟩ : ∃ i, E.ty key = some i := by
            rcases keyFits_ok hfit.1 with ⟨_, _, ⟨j, j1, _⟩, _⟩ | ⟨_, ⟨j, j1, _⟩, _⟩ <;> exact ⟨j, j1⟩
          have hku := run_und (T.ty key i hi).und w
          obtain ⟨f1, f2⟩ := find_ok (c := c) (w := w) hi hfit.1 hk es L.toList 0 hfit.2 q3
          have hget : (getObj b).run P w = .ok (.map L clk) w := by simp [getObj, Sem.run, q2]
          have hck := run_checkKey (P := P) T hfit.1 hk L.isEmpty 9999
          cases hlk : lookupA k es with
          | some u =>
            obtain ⟨j, en, j1, j2, j3, j4, j5⟩ := f1 u hlk
            refine found_ok r j3 ?_
            simp only [Instr.lookup, Sem.run_bind, hu, Result.andThen_ok, hget, Sem.run_pure, hck, Instr.findKey, hku, j2]
          | none =>
            obtain ⟨j1, j2⟩ := f2 hlk
            dsimp only
            cases hel : E.ty el with
            | none => exact VON.none
            | some q =>
              dsimp only
              cases hz : zeroVal q with
              | none => exact VON.none
              | some z =>
                obtain ⟨zv, z1', z2'⟩ := zeroVal_ok (P := P) (c := c) (w := w) T hel hz
                refine found_ok r z2' ?_
                simp only [Instr.lookup, Sem.run_bind, hu, Result.andThen_ok, hget, Sem.run_pure, hck, Instr.findKey, hku, j1, z1']
      · exact VON.none
    · exact VON.none
  · exact VON.none
end
end Rfx
