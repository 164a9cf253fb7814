/- The tables of a program: what must be looked at to know that they say the truth. -/
import Derived.Test.YtnjpcjnkhelfoabGreatDoorRfxCall3
import Derived.Laws.StructEq
set_option linter.unusedSectionVars false
set_option linter.unusedVariables false
set_option linter.unusedSimpArgs false
set_option linter.unnecessarySimpa false
namespace Rfx
open Go
variable [Val]

def kindFits (d : Option TypeDesc) (k : FK) : Bool :=
  match d, k with
  | some .bool, .b => true
  | some (.int j), .i k => decide (j = k)
  | some .string, .s => true
  | _, _ => false

def flatFields (P : Program) : List Go.Field → List FK → Nat → Bool
  | [], [], _ => true
  | f :: fs, k :: ks, off => f.name != "_" && Nat.beq f.offset off && kindFits (P.underlying f.type) k && flatFields P fs ks (off + 1)
  | _, _, _ => false

def flatOk (P : Program) (t : Nat) (ks : List FK) : Bool :=
  match P.underlying t with
  | some (.struct fs) => flatFields P fs.toList ks 0 && !P.stoodInHeld t && !P.eqGuardType P.depth t
  | _ => false

section
variable {P : Program} {c : Cx} {w : World}

theorem fits_eq {k : FK} {x y : AV} {t : Nat} {u v : Value} (n : Nat) (hk : kindFits (P.underlying t) k = true) (hx : fits1 k x = true) (hy : fits1 k y = true) (hu : crel c w x u) (hv : crel c w y v) :
    (Op.equalIn (n + 1) t u v).run P w = .ok (AV.beq x y) w := by
  cases hd : P.underlying t with
  | none => rw [hd] at hk; cases hk
  | some d =>
    rw [hd] at hk
    cases k with
    | b =>
      cases x <;> first | (cases hx; done) | skip
      cases y <;> first | (cases hy; done) | skip
      cases d <;> first | (cases hk; done) | skip
      simp only [crel] at hu hv
      subst hu; subst hv
      exact eqIn_bool n hd _ _
    | i kk =>
      cases x <;> first | (cases hx; done) | skip
      cases y <;> first | (cases hy; done) | skip
      cases d <;> first | (cases hk; done) | skip
      simp only [crel] at hu hv
      subst hu; subst hv
      simp only [fits1, decide_eq_true_eq] at hx hy
      subst hx; subst hy
      rename_i a b _
      simp only [Op.equalIn, Sem.run_bind, run_und hd, Result.andThen_ok, if_true, Sem.run_pure, AV.beq, decide_true, Bool.true_and]
      by_cases e : a = b
      · subst e; simp
      · simp [e]
    | s =>
      cases x <;> first | (cases hx; done) | skip
      cases y <;> first | (cases hy; done) | skip
      cases d <;> first | (cases hk; done) | skip
      simp only [crel] at hu hv
      obtain ⟨x, rfl, rfl⟩ := hu
      obtain ⟨y, rfl, rfl⟩ := hv
      have e1 : (x == y) = (x.data.toList.map (·.toNat) == y.data.toList.map (·.toNat)) := by rw [beq_toListBytes, ByteArray.toList_eq, ByteArray.toList_eq, strEq]
      simp only [Op.equalIn, Sem.run_bind, run_und hd, Result.andThen_ok, Sem.run_pure, AV.beq, e1]

theorem part_fits {k : FK} {t : Nat} {xs : Array Value} {off : Nat} {v : Value} (hk : kindFits (P.underlying t) k = true) (hv : xs[off]? = some v) : (part t xs off).run P w = .ok v w := by
  cases hd : P.underlying t with
  | none => rw [hd] at hk; cases hk
  | some d =>
    rw [hd] at hk
    cases d <;> first | (cases k <;> cases hk; done) | skip
    all_goals simp [part, isAgg, run_und hd, hv]

theorem fields_eq {xs ys : Array Value} (n : Nat) : ∀ {fs : List Go.Field} {ks : List FK} {off : Nat} {a b : List AV}, flatFields P fs ks off = true → fitsAll ks a = true → fitsAll ks b = true →
    (∀ j x, a[j]? = some x → ∃ v, xs[off + j]? = some v ∧ crel c w x v) → (∀ j x, b[j]? = some x → ∃ v, ys[off + j]? = some v ∧ crel c w x v) → (Op.eqFields (n + 1) xs ys fs).run P w = .ok (AV.beqs a b) w
  | [], [], off, a, b, _, ha, hb, _, _ => by
    cases a <;> first | (cases ha; done) | skip
    cases b <;> first | (cases hb; done) | skip
    simp [Op.eqFields, AV.beqs]
  | f :: fs, k :: ks, off, a, b, hf, ha, hb, hxa, hxb => by
    cases a with
    | nil => cases ha
    | cons x a =>
    cases b with
    | nil => cases hb
    | cons y b =>
    simp only [flatFields, Bool.and_eq_true] at hf
    obtain ⟨⟨⟨h1, h2⟩, h3⟩, h4⟩ := hf
    have h2 := beq_t h2
    simp only [fitsAll, Bool.and_eq_true] at ha hb
    obtain ⟨u, u1, u2⟩ := hxa 0 x rfl
    obtain ⟨v, v1, v2⟩ := hxb 0 y rfl
    have ih := fields_eq n h4 ha.2 hb.2 (fun j z hz => by have := hxa (j + 1) z (by simpa using hz); rwa [show off + (j + 1) = off + 1 + j by omega] at this)
      (fun j z hz => by have := hxb (j + 1) z (by simpa using hz); rwa [show off + (j + 1) = off + 1 + j by omega] at this)
    have hn : f.name ≠ "_" := by simpa using h1
    rw [Nat.add_zero] at u1 v1
    rw [Op.eqFields]
    simp only [if_pos hn, Sem.run_bind, h2, part_fits h3 u1, part_fits h3 v1, fits_eq n h3 ha.1 hb.1 u2 v2, Result.andThen_ok, AV.beqs]
    cases AV.beq x y with
    | false => simp
    | true => simpa using ih
  | [], _ :: _, _, _, _, hf, _, _, _, _ => by cases hf
  | _ :: _, [], _, _, _, hf, _, _, _, _ => by cases hf

theorem flat_of {t : Nat} {ks : List FK} (h : flatOk P t ks = true) : FlatOK P t ks := by
  unfold flatOk at h
  split at h
  · rename_i fs hu
    simp only [Bool.and_eq_true, Bool.not_eq_true'] at h
    obtain ⟨⟨h1, h2⟩, h3⟩ := h
    refine ⟨h3, fun c w a b xs ys ha hb hxa hxb => ?_⟩
    have hf : P.fieldsOf t = fs := by simp [Program.fieldsOf, hu]
    unfold Op.equal
    have hm : Op.maxDepth = 9998 + 1 + 1 := rfl
    rw [hm, run_equalIn_struct (P := P) w _ t xs ys (by rw [hf]; exact hu) h2, hf]
    have key : ∀ {l : List AV} {A : Array Value}, crels c w l A.toList → ∀ j x, l[j]? = some x → ∃ v, A[0 + j]? = some v ∧ crel c w x v := fun {l A} hl j x hx => by
      obtain ⟨v, v1, v2⟩ := crels_get _ hl hx
      exact ⟨v, by simpa using v1, v2⟩
    exact fields_eq 9998 h1 ha hb (key hxa) (key hxb)
  · cases h

/-! ### a type's row -/
/-- the row, made from the program's own table; ks: the kinds of the cells of a struct that may be compared -/
def tiOf (T : Array TypeInfo) (i : Nat) (ks : List FK) : TI :=
  match T[i]? with
  | none => default
  | some ti =>
    let d := match ti.desc with | .named _ u => (match T[u]? with | some x => x.desc | none => .invalid) | d => d
    ⟨d, ti.size, ti.bytes, match ti.zero with | some z => toAVs z.cells.toList | none => [], isAggD d, ks⟩

def isAggV : Value → Bool
  | .agg _ => true
  | _ => false

/-- what must be seen of a row -/
def tyOk (P : Program) (i : Nat) (ks : List FK) : Bool :=
  match P.types[i]? with
  | none => false
  | some ti =>
    let d := match ti.desc with | .named _ u => (match P.types[u]? with | some x => x.desc | none => .invalid) | d => d
    (match ti.desc with | .named _ u => (P.types[u]?).isSome | _ => true) &&
    (match ti.zero with
     | some z => Nat.beq z.cells.size ti.size && (if isAggD d then isAggV z else Nat.beq z.cells.size 1 && !isAggV z)
     | none => false) && (ks.isEmpty || flatOk P i ks)

theorem info_of {k : Nat} {x : TypeInfo} (h : P.types[k]? = some x) : P.info? k = some x := by
  have hk := (Array.getElem?_eq_some_iff.1 h).1
  show Tables.info? _ k = some x
  unfold Tables.info?
  rw [if_pos hk]; exact h

theorem ty_of {i : Nat} {ks : List FK} (h : tyOk P i ks = true) : TyOK P i (tiOf P.types i ks) := by
  unfold tyOk at h
  cases ht : P.types[i]? with
  | none => rw [ht] at h; cases h
  | some ti =>
    rw [ht] at h
    simp only [Bool.and_eq_true] at h
    obtain ⟨⟨h1, h2⟩, h3⟩ := h
    cases hz : ti.zero with
    | none => rw [hz] at h2; cases h2
    | some z =>
    rw [hz] at h2
    simp only [Bool.and_eq_true] at h2
    obtain ⟨h2, h4⟩ := h2
    have h2 := beq_t h2
    refine ⟨?_, ?_, ?_, ?_, ?_⟩
    · simp only [tiOf, ht, Program.underlying, info_of ht]
      cases ti with
      | mk desc =>
        cases desc with
        | named nm u =>
          dsimp only at h1 ⊢
          cases hu : P.types[u]? with
          | none => rw [hu] at h1; cases h1
          | some x => rw [info_of hu]; rfl
        | _ => rfl
    · simp only [tiOf, ht]
    · have : ∀ l : List Value, (toAVs l).length = l.length := fun l => by
        induction l with
        | nil => rfl
        | cons v r ih => simp [toAVs, ih]
      simp only [tiOf, ht, hz, this, Array.length_toList]
      exact h2
    · refine ⟨ti, z, info_of ht, by simp only [tiOf, ht], by simp only [tiOf, ht], hz, fun c w => ?_, fun ha => ?_, fun ha => ?_⟩
      · simp only [tiOf, ht, hz]; exact toAVs_rel c w _
      · simp only [tiOf, ht] at ha
        simp only [ha, if_true] at h4
        cases z <;> first | (cases h4; done) | exact ⟨_, rfl⟩
      · simp only [tiOf, ht] at ha
        simp only [ha, Bool.false_eq_true, if_false, Bool.and_eq_true, Bool.not_eq_true'] at h4
        cases z <;> first | rfl | (exact absurd h4.2 (by simp [isAggV]))
    · intro hk
      simp only [tiOf, ht] at hk ⊢
      rw [hk] at h3
      simp only [Bool.false_or] at h3
      exact flat_of h3
end
end Rfx
