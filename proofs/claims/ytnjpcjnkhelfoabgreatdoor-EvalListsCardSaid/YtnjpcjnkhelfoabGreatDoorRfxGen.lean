/- Tables with contracts and with what is known of numbers that are not known. -/
import Derived.Test.YtnjpcjnkhelfoabGreatDoorRfxCon
set_option linter.unusedSectionVars false
set_option linter.unusedVariables false
set_option linter.unusedSimpArgs false
set_option linter.unnecessarySimpa false
namespace Rfx
open Go

theorem drawsOk_congr {E E' : Env} (h : E'.ord = E.ord) (f : Nat) : ∀ c, drawsOk E' f c = drawsOk E f c := by
  intro c
  induction c <;> simp_all [drawsOk]

/-! ### two ways to stand for the unknown -/
structure NewOK (w w' : World) : Prop where
  keep : ∀ b, b < w.heap.size → w'.heap[b]? = w.heap[b]?
  shape : ∀ b s, w.shape? b = some s → w'.shape? b = some s
  size : w.heap.size ≤ w'.heap.size
  out : w'.os = w.os ∧ w'.output = w.output
structure LowOK (c : Cx) (w : World) : Prop where
  flt : ∀ b, c.frz b → b < w.heap.size
  bse : c.base ≤ w.heap.size
section
variable [Val] {c c' : Cx} {h h' : AH} {w w' : World}
theorem Step.newOK (hc : Calm w) (s : Step c.bare ⟨0, .nil⟩ w c' h' w') : NewOK w w' :=
  ⟨fun b hb => s.keep b hb fun o x l => absurd l (not_live_nil o), s.shape, s.size, s.rel.bse.2.1.trans hc.1.symm, s.rel.bse.2.2.trans hc.2.symm⟩
theorem HRel.lowOK (r : HRel c h w) : LowOK c w := ⟨r.flt, r.bse.1⟩
theorem LowOK.bare (hc : Calm w) (r : LowOK c w) : HRel c.bare ⟨0, .nil⟩ w where
  cells := fun o cs e => by simp [Tr.get_nil] at e
  maps := fun o es e => by simp [Tr.get_nil] at e
  loops := fun o _ _ _ _ _ _ _ _ e => by simp [Tr.get_nil] at e
  inj := fun o o' b x y l => by simp [live, Tr.get_nil] at l
  nfz := fun o b x l => by simp [live, Tr.get_nil] at l
  fresh := fun o _ => ⟨⟨rfl, fun h => h⟩, Tr.get_nil o⟩
  lt := fun o b x e => by cases e
  flt := r.flt
  bse := ⟨r.bse, hc⟩
theorem NewOK.mono (s : NewOK w w') (r : HRel c h w) : Mono c w (c.wide w w') w' :=
  ⟨fun _ _ e => e, fun _ e => .inl e, fun b hb => s.keep b (r.flt b hb), s.shape⟩
theorem NewOK.rel (s : NewOK w w') (r : HRel c h w) : HRel (c.wide w w') h w' := by
  have m := s.mono r
  refine ⟨?_, ?_, ?_, r.inj, ?_, r.fresh, fun o b x e => Nat.lt_of_lt_of_le (r.lt o b x e) s.size, ?_, Nat.le_trans r.bse.1 s.size, s.out.1.trans r.bse.2.1, s.out.2.trans r.bse.2.2⟩
  · intro o cs ho
    obtain ⟨b, base, arr, ty, fz, h1, h2, h3, h4⟩ := r.cells o cs ho
    refine ⟨b, base, arr, ty, fz, h1, ?_, h3, crelm_mono m cs b base (fun off => ?_) h4.1, h4.2⟩
    · rw [s.keep b (r.lt o b base h1)]; exact h2
    · simp only [World.cell?, s.keep b (r.lt o b base h1)]
  · intro o es ho
    obtain ⟨b, E, clk, h1, h2, h3⟩ := r.maps o es ho
    exact ⟨b, E, clk, h1, by rw [s.keep b (r.lt o b 0 h1)]; exact h2, crelE_mono m h3⟩
  · intro o fi tm n ps a b st pend ho
    obtain ⟨blk, rr, h1, h2, h4, h5⟩ := r.loops o fi tm n ps a b st pend ho
    exact ⟨blk, rr, h1, by rw [s.keep blk (r.lt o blk 0 h1)]; exact h2, h4.mono m, h5⟩
  · intro o b x l e hf
    have := r.lt o b x e
    rcases hf with hf | hf
    · exact r.nfz o b x l e hf
    · omega
  · intro b hb
    rcases hb with hb | hb
    · exact Nat.lt_of_lt_of_le (r.flt b hb) s.size
    · exact hb.2
theorem NewOK.step (s : NewOK w w') (r : HRel c h w) : Step c h w (c.wide w w') h w' where
  rel := s.rel r
  loc := fun _ _ e => e
  frz := fun _ e => .inl e
  shape := s.shape
  size := s.size
  keep := fun b hb _ => s.keep b hb
  frz' := fun b e => by
    rcases e with e | e
    · exact .inl e
    · exact .inr (.inr e.1)
  live' := fun o b x l e => .inl ⟨o, x, l, e⟩
  next := Nat.le_refl _
  rsv := fun _ e => ⟨e, rfl⟩
  base := rfl
end

section
variable {V1 : Val} {P : Program} {E : Env}
/-- unknown numbers, in a world -/
structure XS where
  xb : Nat → Nat
  xo : Nat → Nat
  xn : Nat → Nat
  xc : Nat → Nat
  xobj : Nat → Obj
def XS.no : XS := ⟨fun _ => 0, fun _ => 0, fun _ => 0, fun _ => 0, fun _ => .cells #[] 0⟩
@[reducible] def valX (ρ : Nat → Int) (X : XS) (w : World) : Val := ⟨ρ, w.os, w.output, X.xb, X.xo, X.xn, X.xc, X.xobj⟩
@[reducible] def valAt (ρ : Nat → Int) (w : World) : Val := valX ρ XS.no w
theorem calm_at (ρ : Nat → Int) (w : World) : @Calm (valAt ρ w) w := ⟨rfl, rfl⟩
/-- a plain result -/
def AV.flat : AV → Bool
  | .bool _ | .int _ _ => true
  | _ => false

/-- a run from nothing, its unknown numbers stood for by ρ, gives a contract under V1 -/
theorem con_of_run3 (VV : World → Val) (hV : ∀ w, @Calm (VV w) w) (T : ∀ w, @FnOK (VV w) P E) {n m f : Nat} {args : List AV} {v : AV} (hg : gives (evalN E n f args ⟨0, .nil⟩) m v = true) (hv : v.flat = true)
    (c : Cx) (h : AH) (w : World) (A : Array Value) (k : Nat) (r : @HRel V1 c h w) (hA : @crels (VV w) c.bare w args A.toList) :
    CallsIn (FR none) k P f A w (@CPost V1 c h w (.ret v) h) := by
  cases he : evalN E n f args ⟨0, .nil⟩ with
  | none => rw [he] at hg; simp [gives] at hg
  | some p =>
    obtain ⟨res, h'⟩ := p
    rw [he] at hg
    cases res with
    | panic _ => simp [gives] at hg
    | ret x =>
      simp only [gives] at hg
      cases hd : deepA h' m x with
      | none => rw [hd] at hg; simp at hg
      | some y =>
        rw [hd] at hg
        have hy := same_eq _ _ hg
        subst hy
        have low := @HRel.lowOK V1 c h w r
        refine ((@evalN_ok (VV w) _ _ (T w) n) f args _ _ _ he c.bare w A (@LowOK.bare (VV w) _ _ (hV w) low) hA k).mono fun en w' hp => ?_
        obtain ⟨c', s, cv, h1, h2⟩ := hp
        have nw := @Step.newOK (VV w) _ _ _ _ _ (hV w) s
        refine ⟨c.wide w w', @NewOK.step V1 _ _ _ _ nw r, cv, h1, ?_⟩
        have hd' : ∃ mm, m = mm + 1 := by cases m with | zero => cases hd | succ mm => exact ⟨mm, rfl⟩
        obtain ⟨mm, rfl⟩ := hd'
        replace hd : deepF h' (deepL (deepA h' mm)) x = some y := hd
        have hxy : x = y := by
          cases x <;> simp only [deepF] at hd <;> first
            | (cases hd; rfl)
            | (cases hd; done)
            | (split at hd
               · split at hd
                 · cases hd; simp [AV.flat] at hv
                 · cases hd
               · cases hd)
            | (split at hd
               · cases hd; simp [AV.flat] at hv
               · cases hd)
        subst hxy
        cases x <;> simp [AV.flat] at hv <;> simpa [crel] using h2
theorem con_of_run2 (ρ : Nat → Int) (T : ∀ w, @FnOK (valAt ρ w) P E) {n m f : Nat} {args : List AV} {v : AV} (hg : gives (evalN E n f args ⟨0, .nil⟩) m v = true) (hv : v.flat = true)
    (c : Cx) (h : AH) (w : World) (A : Array Value) (k : Nat) (r : @HRel V1 c h w) (hA : @crels (valAt ρ w) c.bare w args A.toList) :
    CallsIn (FR none) k P f A w (@CPost V1 c h w (.ret v) h) := con_of_run3 (valAt ρ) (calm_at ρ) T hg hv c h w A k r hA
end

/-! ### the signs of differences -/
/-- 0: less, 1: equal, 2: greater -/
def signI (a b : Int) : Nat := if a < b then 0 else if a = b then 1 else 2
def cmpB (op : BinOp) (s : Nat) : Option Bool :=
  match op with
  | .eql => some (Nat.beq s 1)
  | .neq => some (!Nat.beq s 1)
  | .lss => some (Nat.beq s 0)
  | .leq => some (Nat.ble s 1)
  | .gtr => some (Nat.beq s 2)
  | .geq => some (Nat.ble 1 s)
  | _ => none
def kindI : AV → Option IntKind
  | .int k _ => some k
  | .sym k _ => some k
  | _ => none
def denI [Val] : AV → Int
  | .int _ n => n
  | .sym _ j => Val.val j
  | _ => 0

def symI (sg : AV → AV → Option Nat) (op : BinOp) (x y : AV) : Option AV :=
  match kindI x, kindI y with
  | some k, some k' => bif decide (k = k') then
      match sg x y with
      | some s => match cmpB op s with
        | some b => some (.bool b)
        | none => none
      | none => none
    else none
  | _, _ => none

theorem crel_denI [Val] {c : Cx} {w : World} {x : AV} {v : Value} {k : IntKind} (h : crel c w x v) (hk : kindI x = some k) : v = .int k (denI x) := by
  cases x <;> simp [kindI] at hk <;> subst hk <;> simpa [crel, denI] using h

theorem cmpB_int {op : BinOp} {k : IntKind} {a b : Int} {r : Bool} (h : cmpB op (signI a b) = some r) : intBin op k a b = some (.bool r) ∧ isShift op = false := by
  have h3 : (a < b ∧ signI a b = 0) ∨ (a = b ∧ signI a b = 1) ∨ (b < a ∧ signI a b = 2) := by
    unfold signI
    by_cases h1 : a < b
    · simp [h1]
    · by_cases h2 : a = b
      · simp [h2]
      · right; right; simp [h1, h2]; omega
  rcases h3 with ⟨h1, h2⟩ | ⟨h1, h2⟩ | ⟨h1, h2⟩ <;> rw [h2] at h <;> cases op <;> simp only [cmpB, Option.some.injEq, reduceCtorEq] at h <;> subst h <;> refine ⟨?_, rfl⟩ <;> simp only [intBin, Option.some.injEq, AV.bool.injEq] <;> (try simp [Nat.ble, Nat.beq]) <;> (try omega)

theorem symI_ok [Val] {P : Program} {sg : AV → AV → Option Nat} (hs : ∀ x y s, sg x y = some s → signI (denI x) (denI y) = s) {op : BinOp} {t : Nat} {x y v : AV} (e : symI sg op x y = some v)
    (c : Cx) (w : World) (xv yv : Value) (hx : crel c w x xv) (hy : crel c w y yv) :
    (∀ ox oy, (eqGuard op t ox oy xv yv).run P w = .ok () w) ∧ ∃ cv, (binOp op t xv yv).run P w = .ok cv w ∧ crel c w v cv := by
  unfold symI at e
  split at e
  · rename_i k k' h1 h2
    obtain ⟨e1, e2⟩ := cond_some e
    have := of_decide_eq_true e1
    subst this
    have hxv := crel_denI hx h1
    have hyv := crel_denI hy h2
    subst hxv; subst hyv
    split at e2
    · rename_i s hsg
      split at e2
      · rename_i b hb
        rw [← hs x y s hsg] at hb
        cases e2
        obtain ⟨q1, q2⟩ := cmpB_int (k := k) hb
        obtain ⟨cv, q3, q4⟩ := intBin_ok (P := P) (c := c) (w := w) (t := t) q1 q2
        exact ⟨fun ox oy => by cases op <;> simp [eqGuard], cv, q3, q4⟩
      · cases e2
    · cases e2
  · cases e

/-- comparing structs of unknown numbers -/
def denK [Val] : AV → AV
  | .sym k j => .int k (Val.val j)
  | v => v
def fits2 : FK → AV → Bool
  | .i k, .sym j _ => decide (k = j)
  | k, v => fits1 k v
def fitsAll2 : List FK → List AV → Bool
  | [], [] => true
  | k :: ks, v :: vs => fits2 k v && fitsAll2 ks vs
  | _, _ => false

theorem fits_den [Val] : ∀ (ks : List FK) (a : List AV), fitsAll2 ks a = true → fitsAll ks (a.map denK) = true
  | [], [], _ => rfl
  | [], _ :: _, h => by simp [fitsAll2] at h
  | _ :: _, [], h => by simp [fitsAll2] at h
  | k :: ks, v :: vs, h => by
    simp only [fitsAll2, Bool.and_eq_true] at h
    simp only [List.map_cons, fitsAll, Bool.and_eq_true]
    refine ⟨?_, fits_den ks vs h.2⟩
    have h1 := h.1
    cases v <;> cases k <;> simp_all [fits2, fits1, denK]

theorem crels_denK [Val] {c : Cx} {w : World} : ∀ (ks : List FK) (a : List AV) (vs : List Value), fitsAll2 ks a = true → crels c w a vs → crels c w (a.map denK) vs
  | [], [], _, _, h => h
  | [], _ :: _, _, h, _ => by simp [fitsAll2] at h
  | _ :: _, [], _, h, _ => by simp [fitsAll2] at h
  | k :: ks, v :: a, vs, h, hr => by
    simp only [fitsAll2, Bool.and_eq_true] at h
    simp only [crels] at hr
    obtain ⟨u, y, rfl, h1, h2⟩ := hr
    refine crels_cons ?_ (crels_denK ks a y h.2 h2)
    cases v <;> simp_all [denK, crel]

theorem symAgg_ok [Val] {P : Program} {ks : List FK} {t : Nat} (hF : FlatOK P t ks) {op : BinOp} {a b : List AV} {q : Bool} {v : AV} (ha : fitsAll2 ks a = true) (hb : fitsAll2 ks b = true)
    (hq : AV.beqs (a.map denK) (b.map denK) = q) (e : eqBin op q = some v)
    (c : Cx) (w : World) (xv yv : Value) (hx : crel c w (.agg a) xv) (hy : crel c w (.agg b) yv) :
    (∀ ox oy, (eqGuard op t ox oy xv yv).run P w = .ok () w) ∧ ∃ cv, (binOp op t xv yv).run P w = .ok cv w ∧ crel c w v cv := by
  simp only [crel] at hx hy
  obtain ⟨xs, rfl, hx⟩ := hx
  obtain ⟨ys, rfl, hy⟩ := hy
  obtain ⟨g1, g2⟩ := hF
  obtain ⟨cv, h1, h2⟩ := eql_run (P := P) (c := c) (w := w) (t := t) (x := .agg xs) (y := .agg ys) e
    (by rw [← hq]; exact g2 c w _ _ xs ys (fits_den ks a ha) (fits_den ks b hb) (crels_denK ks a _ ha hx) (crels_denK ks b _ hb hy)) rfl rfl
  exact ⟨fun ox oy => by cases op <;> simp [eqGuard, g1], cv, h1, h2⟩
end Rfx
