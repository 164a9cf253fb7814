/- Around, Pick and Ints: what they make of a slice that came in. -/
import Derived.Test.YtnjpcjnkhelfoabGreatDoorRfxB0
import Derived.Test.YtnjpcjnkhelfoabGreatDoorRfxGen2
set_option linter.unusedSectionVars false
set_option linter.unusedVariables false
set_option linter.unusedSimpArgs false
set_option linter.unnecessarySimpa false
namespace Rfx.RfxEnvB
set_option maxRecDepth 20000
open Go Go.Proofs

noncomputable def envY (con : Nat → List AV → Option AV) (sym : BinOp → Nat → AV → AV → Option AV) (symu : UnOp → AV → Option AV) (xlen : Nat → Option AV) (xat : Nat → Nat → Nat → Option (List AV)) : Env :=
  { env with con := con, sym := sym, symu := symu, xlen := xlen, xat := xat }
theorem okY [Val] {con : Nat → List AV → Option AV} {sym : BinOp → Nat → AV → AV → Option AV} {symu : UnOp → AV → Option AV} {xlen : Nat → Option AV} {xat : Nat → Nat → Nat → Option (List AV)}
    (hc : ∀ f args v, con f args = some v → ConOK f args v)
    (hs : ∀ op t x y v, sym op t x y = some v → ∀ (c : Cx) (w : World) (xv yv : Value), crel c w x xv → crel c w y yv →
      (∀ ox oy, (eqGuard op t ox oy xv yv).run Tryz.prog w = .ok () w) ∧ ∃ cv, (binOp op t xv yv).run Tryz.prog w = .ok cv w ∧ crel c w v cv)
    (hu : ∀ op x v, symu op x = some v → ∀ (c : Cx) (w : World) (xv : Value), crel c w x xv → ∃ cv, (Op.unary op xv).run Tryz.prog w = .ok cv w ∧ crel c w v cv)
    (hl : ∀ j v, xlen j = some v → ∀ (c : Cx) (w : World), crel c w v (.int .i64 (Val.xn j : Int)))
    (ha : ∀ j i n cs, xat j i n = some cs → i < Val.xn j ∧ ∀ (c : Cx) (w : World), w.heap[Val.xb j]? = some (Val.xobj j) → crelm c w cs (Val.xb j) (Val.xo j + i * n)) :
    FnOK Tryz.prog (envY con sym symu xlen xat) where
  tab := { ty := ok.tab.ty, fn := ok.tab.fn, ext := ok.tab.ext, sym := hs, symu := hu, xlen := hl, xat := ha, mixed := ok.tab.mixed }
  con := hc
  draws := fun f fn cd h hb => by
    rw [drawsOk_congr (E := env) (E' := envY con sym symu xlen xat) rfl]
    exact ok.draws f fn cd h hb
def noCon : Nat → List AV → Option AV := fun _ _ => none
def noSymu : UnOp → AV → Option AV := fun _ _ => none
def noLen : Nat → Option AV := fun _ => none
def noAt : Nat → Nat → Nat → Option (List AV) := fun _ _ _ => none

/-- an operation on numbers of one kind -/
theorem int_op [Val] {op : BinOp} {t : Nat} {k : IntKind} {a b : Int} {r v : AV} (h1 : intBin op k a b = some r) (h2 : isShift op = false) (hg : ∀ ox oy, (eqGuard op t ox oy (.int k a) (.int k b)) = pure ()) (hr : ∀ (c : Cx) (w : World) cv, crel c w r cv → crel c w v cv)
    (c : Cx) (w : World) : (∀ ox oy, (eqGuard op t ox oy (.int k a) (.int k b)).run Tryz.prog w = .ok () w) ∧ ∃ cv, (binOp op t (.int k a) (.int k b)).run Tryz.prog w = .ok cv w ∧ crel c w v cv := by
  obtain ⟨cv, q1, q2⟩ := intBin_ok (P := Tryz.prog) (c := c) (w := w) (t := t) h1 h2
  exact ⟨fun ox oy => by rw [hg]; rfl, cv, q1, hr c w cv q2⟩

/-! ### Around -/
def symA (ng : Bool) (m : Int) : BinOp → Nat → AV → AV → Option AV
  | .lss, _, .sym .i64 0, .int .i64 n => bif n == 0 then some (.bool ng) else none
  | .add, _, .sym .i64 0, .int .i64 n => bif n == 1 then some (.sym .i64 1) else none
  | .rem, _, .sym .i64 2, .int .i64 n => bif n == m then some (.sym .i64 3) else none
  | .rem, _, .sym .i64 0, .int .i64 n => bif n == m then some (.sym .i64 4) else none
  | _, _, _, _ => none
def symuA : UnOp → AV → Option AV
  | .neg, .sym .i64 1 => some (.sym .i64 2)
  | _, _ => none
def rhoA (a m : Int) : Nat → Int
  | 0 => a
  | 1 => IntKind.i64.wrap (a + 1)
  | 2 => IntKind.i64.wrap (0 - IntKind.i64.wrap (a + 1))
  | 3 => (IntKind.i64.wrap (0 - IntKind.i64.wrap (a + 1))).tmod m
  | 4 => a.tmod m
  | _ => 0
noncomputable def arAll (m : Int) : Bool :=
  gives (evalN (envY noCon (symA true m) symuA noLen noAt) 1000 5 [.sym .i64 0, .int .i64 m] ⟨0, .nil⟩) 3 (.sym .i64 3) &&
  gives (evalN (envY noCon (symA false m) symuA noLen noAt) 1000 5 [.sym .i64 0, .int .i64 m] ⟨0, .nil⟩) 3 (.sym .i64 4)
theorem ar_all : (arAll 6 && arAll 9) = true := by kernel_rfl

theorem symA_ok (a m : Int) (hm : m ≠ 0) (w0 : World) (op : BinOp) (t : Nat) (x y v : AV) (e : symA (decide (a < 0)) m op t x y = some v) (c : Cx) (w : World) (xv yv : Value)
    (hx : @crel (valAt (rhoA a m) w0) c w x xv) (hy : @crel (valAt (rhoA a m) w0) c w y yv) :
    (∀ ox oy, (eqGuard op t ox oy xv yv).run Tryz.prog w = .ok () w) ∧ ∃ cv, (binOp op t xv yv).run Tryz.prog w = .ok cv w ∧ @crel (valAt (rhoA a m) w0) c w v cv := by
  letI V := valAt (rhoA a m) w0
  unfold symA at e
  split at e
  · obtain ⟨e1, e2⟩ := cond_some e
    cases e2
    simp only [beq_iff_eq] at e1
    subst e1
    simp only [crel] at hx hy
    subst hx; subst hy
    exact int_op (r := .bool (decide (a < 0))) rfl rfl (fun _ _ => rfl) (fun _ _ _ h => h) c w
  · obtain ⟨e1, e2⟩ := cond_some e
    cases e2
    simp only [beq_iff_eq] at e1
    subst e1
    simp only [crel] at hx hy
    subst hx; subst hy
    exact int_op (r := .int .i64 (IntKind.i64.wrap (a + 1))) rfl rfl (fun _ _ => rfl) (fun _ _ _ h => h) c w
  · obtain ⟨e1, e2⟩ := cond_some e
    cases e2
    simp only [beq_iff_eq] at e1
    subst e1
    simp only [crel] at hx hy
    subst hx; subst hy
    rename_i n
    refine int_op (r := .int .i64 ((rhoA a n 2).tmod n)) ?_ rfl (fun _ _ => rfl) (fun _ _ _ h => h) c w
    have hm0 : (n == 0) = false := beq_false_of_ne hm
    simp only [intBin]
    rw [hm0]
    rfl
  · obtain ⟨e1, e2⟩ := cond_some e
    cases e2
    simp only [beq_iff_eq] at e1
    subst e1
    simp only [crel] at hx hy
    subst hx; subst hy
    rename_i n
    refine int_op (r := .int .i64 (a.tmod n)) ?_ rfl (fun _ _ => rfl) (fun _ _ _ h => h) c w
    have hm0 : (n == 0) = false := beq_false_of_ne hm
    simp only [intBin]
    rw [hm0]
    rfl
  · cases e

theorem around_ok {a m : Int} (hm : m = 6 ∨ m = 9) (ha : inI64 a) (V1 : Val) (v1 : AV) (h1 : ∀ c w, @crel V1 c w v1 (.int .i64 (aroundI a m))) (c : Cx) (h : AH) (w : World) (n : Nat) (r : @HRel V1 c h w) :
    CallsIn (FR none) n Tryz.prog 5 #[.int .i64 a, .int .i64 m] w (@CPost V1 c h w (.ret v1) h) := by
  have hm0 : m ≠ 0 := by omega
  have hall : arAll m = true := by
    have := ar_all
    rw [Bool.and_eq_true] at this
    rcases hm with rfl | rfl
    · exact this.1
    · exact this.2
  unfold arAll at hall
  rw [Bool.and_eq_true] at hall
  have T : ∀ w0, @FnOK (valAt (rhoA a m) w0) Tryz.prog (envY noCon (symA (decide (a < 0)) m) symuA noLen noAt) := fun w0 =>
    @okY (valAt (rhoA a m) w0) _ _ _ _ _ (fun _ _ _ e => by cases e) (symA_ok a m hm0 w0) (fun op x v e c w xv hx => by
      letI V := valAt (rhoA a m) w0
      unfold symuA at e
      split at e
      · cases e
        simp only [crel] at hx
        subst hx
        exact ⟨_, rfl, by simp only [crel]; rfl⟩
      · cases e) (fun _ _ e => by cases e) (fun _ _ _ _ e => by cases e)
  have hA : @crels (valAt (rhoA a m) w) c.bare w [.sym .i64 0, .int .i64 m] (#[.int .i64 a, .int .i64 m] : Array Value).toList := by
    letI V := valAt (rhoA a m) w
    exact crels_cons (by simp only [crel]; rfl) (crels_one (by simp only [crel]))
  have conv : ∀ j, rhoA a m j = aroundI a m → ∀ (c1 c2 : Cx) (w' : World) (cv : Value), @crel (valAt (rhoA a m) w) c1 w' (.sym .i64 j) cv → @crel V1 c2 w' v1 cv := by
    intro j hj c1 c2 w' cv hcv
    have : cv = .int .i64 (aroundI a m) := by
      have h2 : cv = .int .i64 (rhoA a m j) := hcv
      rw [h2, hj]
    rw [this]
    exact h1 c2 w'
  by_cases hneg : a < 0
  · have hd : decide (a < 0) = true := decide_eq_true hneg
    rw [hd] at T
    refine con_of_run4 (valAt (rhoA a m)) (calm_at (rhoA a m)) T hall.1 rfl c h w _ n (conv 3 ?_) r hA
    unfold inI64 at ha
    have e1 : IntKind.i64.wrap (a + 1) = a + 1 := wrap_in (by unfold inI64; omega)
    have e2 : IntKind.i64.wrap (0 - (a + 1)) = -(a + 1) := by rw [wrap_in (by unfold inI64; omega)]; omega
    show (IntKind.i64.wrap (0 - IntKind.i64.wrap (a + 1))).tmod m = aroundI a m
    rw [e1, e2]
    unfold aroundI
    rw [if_pos hneg]
  · have hd : decide (a < 0) = false := decide_eq_false hneg
    rw [hd] at T
    refine con_of_run4 (valAt (rhoA a m)) (calm_at (rhoA a m)) T hall.2 rfl c h w _ n (conv 4 ?_) r hA
    show a.tmod m = aroundI a m
    unfold aroundI
    rw [if_neg hneg]

/-! ### a slice of numbers that came in -/
structure Sl where
  b : Nat
  o : Nat
  len : Nat
  cap : Nat
  obj : Obj
  l : Nat → Int
structure SlOK (S : Sl) : Prop where
  cap : S.len ≤ S.cap
  cell : ∀ k, k < S.len → inI64 (S.l k) ∧ ∀ w : World, w.heap[S.b]? = some S.obj → w.cell? ⟨S.b, S.o + k, none⟩ = some (.int .i64 (S.l k))
def Sl.xs (S : Sl) : XS := ⟨fun _ => S.b, fun _ => S.o, fun _ => S.len, fun _ => S.cap, fun _ => S.obj⟩
def Sl.pick (S : Sl) (k : Nat) (m : Int) : Int := if k < S.len then aroundI (S.l k) m else 0

def conP (m : Int) : Nat → List AV → Option AV
  | 5, [.sym .i64 1, .int .i64 n] => bif n == m then some (.sym .i64 2) else none
  | _, _ => none
def symP (k : Nat) (inr : Bool) : BinOp → Nat → AV → AV → Option AV
  | .geq, _, .int .i64 (.ofNat n), .sym .i64 0 => bif Nat.beq n k then some (.bool (!inr)) else none
  | _, _, _, _ => none
def lenP : Nat → Option AV
  | 0 => some (.sym .i64 0)
  | _ => none
def atP (k : Nat) (inr : Bool) : Nat → Nat → Nat → Option (List AV)
  | 0, j, 1 => bif Nat.beq j k && inr then some [.sym .i64 1] else none
  | _, _, _ => none
noncomputable def pkAll (m : Int) : Bool := (List.range 6).all fun k =>
  gives (evalN (envY (conP m) (symP k true) noSymu lenP (atP k true)) 1000 11 [.ext 0, .int .i64 (Int.ofNat k), .int .i64 m] ⟨0, .nil⟩) 3 (.sym .i64 2) &&
  gives (evalN (envY (conP m) (symP k false) noSymu lenP (atP k false)) 1000 11 [.ext 0, .int .i64 (Int.ofNat k), .int .i64 m] ⟨0, .nil⟩) 3 (.int .i64 0)
theorem pk_all : (pkAll 6 && pkAll 9) = true := by kernel_rfl

def Sl.at (S : Sl) (k : Nat) : Int := if k < S.len then S.l k else 0
theorem Sl.at_in {S : Sl} (hS : SlOK S) (k : Nat) : inI64 (S.at k) := by
  unfold Sl.at
  split
  · exact (hS.cell k ‹_›).1
  · unfold inI64; omega
def rhoP (S : Sl) (k : Nat) (m : Int) : Nat → Int
  | 0 => (S.len : Int)
  | 1 => S.at k
  | 2 => aroundI (S.at k) m
  | _ => 0

theorem okP {S : Sl} (hS : SlOK S) {k : Nat} {m : Int} (hm : m = 6 ∨ m = 9) {inr : Bool} (hi : inr = decide (k < S.len)) (w0 : World) :
    @FnOK (valX (rhoP S k m) S.xs w0) Tryz.prog (envY (conP m) (symP k inr) noSymu lenP (atP k inr)) := by
  letI V := valX (rhoP S k m) S.xs w0
  refine okY ?_ ?_ (fun _ _ _ e => by cases e) ?_ ?_
  · intro f args v e
    unfold conP at e
    split at e
    · rename_i nq
      obtain ⟨e1, e2⟩ := cond_some e
      cases e2
      simp only [beq_iff_eq] at e1
      subst e1
      intro c h w A nn r hA
      simp only [crels] at hA
      obtain ⟨z1, y1, hz, hv1, z2, y2, hz', hv2, hz''⟩ := hA
      simp only [crel] at hv1 hv2
      subst hv1; subst hv2; subst hz''; subst hz'
      have : A = #[.int .i64 (S.at k), .int .i64 nq] := Array.ext' (by rw [hz]; rfl)
      subst this
      exact around_ok hm (Sl.at_in hS k) V _ (fun c w => by simp only [crel]; rfl) c h w nn r
    · cases e
  · intro op t x y v e c w xv yv hx hy
    unfold symP at e
    split at e
    · rename_i n
      obtain ⟨e1, e2⟩ := cond_some e
      cases e2
      have := beq_t e1
      subst this
      simp only [crel] at hx hy
      subst hx; subst hy
      refine int_op (r := .bool (decide ((n : Int) ≥ (S.len : Int)))) rfl rfl (fun _ _ => rfl) (fun c w cv h => ?_) c w
      have hb : (!inr) = decide ((n : Int) ≥ (S.len : Int)) := by
        rw [hi, ← decide_not]
        congr 1
        simp
      rw [hb]; exact h
    · cases e
  · intro j v e c w
    unfold lenP at e
    split at e
    · cases e
      simp only [crel]; rfl
    · cases e
  · intro j i n cs e
    unfold atP at e
    split at e
    · obtain ⟨e1, e2⟩ := cond_some e
      rw [Bool.and_eq_true] at e1
      have := beq_t e1.1
      subst this
      have hlt : i < S.len := by rw [hi] at e1; exact of_decide_eq_true e1.2
      cases e2
      refine ⟨hlt, fun c w hw => ?_⟩
      simp only [crelm, and_true]
      refine ⟨.int .i64 (S.l i), ?_, ?_⟩
      rotate_left
      · have h9 : S.at i = S.l i := by unfold Sl.at; rw [if_pos hlt]
        show Value.int .i64 (S.l i) = Value.int .i64 (S.at i)
        rw [h9]
      have := (hS.cell i hlt).2 w hw
      show w.cell? ⟨S.b, S.o + i * 1, none⟩ = _
      rw [Nat.mul_one]; exact this
    · cases e

theorem pick_con {S : Sl} (hS : SlOK S) {k : Nat} (hk : k < 6) {m : Int} (hm : m = 6 ∨ m = 9) (ρ1 : Nat → Int) (u : World) (v1 : AV) (h1 : ∀ c w, @crel (valX ρ1 S.xs u) c w v1 (.int .i64 (S.pick k m))) :
    @ConOK (valX ρ1 S.xs u) 11 [.ext 0, .int .i64 (Int.ofNat k), .int .i64 m] v1 := by
  intro c h w A n r hA
  have hA2 : @crels (valX (rhoP S k m) S.xs w) c.bare w [.ext 0, .int .i64 (Int.ofNat k), .int .i64 m] A.toList := hA
  have hall : pkAll m = true := by
    have := pk_all
    rw [Bool.and_eq_true] at this
    rcases hm with rfl | rfl
    · exact this.1
    · exact this.2
  unfold pkAll at hall
  rw [List.all_eq_true] at hall
  have hg := hall k (List.mem_range.2 hk)
  rw [Bool.and_eq_true] at hg
  by_cases hlt : k < S.len
  · refine con_of_run4 (V1 := valX ρ1 S.xs u) (valX (rhoP S k m) S.xs) (fun _ => ⟨rfl, rfl⟩) (fun w0 => okP hS hm (decide_eq_true hlt).symm w0) hg.1 rfl c h w A n ?_ r hA2
    intro c1 c2 w' cv hcv
    have h2 : cv = .int .i64 (aroundI (S.at k) m) := hcv
    have h3 : S.pick k m = aroundI (S.at k) m := by unfold Sl.pick Sl.at; rw [if_pos hlt, if_pos hlt]
    rw [h2, ← h3]
    exact h1 c2 w'
  · refine con_of_run4 (V1 := valX ρ1 S.xs u) (valX (rhoP S k m) S.xs) (fun _ => ⟨rfl, rfl⟩) (fun w0 => okP hS hm (decide_eq_false hlt).symm w0) hg.2 rfl c h w A n ?_ r hA2
    intro c1 c2 w' cv hcv
    have h2 : cv = .int .i64 0 := by simpa only [crel] using hcv
    have h3 : S.pick k m = 0 := by unfold Sl.pick; rw [if_neg hlt]
    rw [h2, ← h3]
    exact h1 c2 w'

/-! ### Ints -/
def rhoI (S : Sl) (x a : Int) : Nat → Int
  | 0 => x
  | 1 => a
  | 2 => aroundI a 9 - 2
  | 10 => S.pick 1 9 - 2
  | 11 => S.pick 2 9 - 2
  | 12 => S.pick 3 9 - 2
  | 13 => S.pick 4 9 - 2
  | 14 => S.pick 5 9 - 2
  | 31 => S.pick 1 9
  | 32 => S.pick 2 9
  | 33 => S.pick 3 9
  | 34 => S.pick 4 9
  | 35 => S.pick 5 9
  | _ => 0
def kids : Nat → List AV
  | 0 => []
  | n + 1 => kids n ++ [.int .i64 0, .sym .i64 (10 + n), .str [], .nilsl]
def lstV (n : Nat) : AV := .agg [.int .i64 2, .int .i64 0, .str [], bif Nat.beq n 0 then .nilsl else .fsl n false (kids n)]
def conI (n : Nat) : List (Nat × List AV × AV) := [(11, [.ext 0, .int .i64 0, .int .i64 6], .int .i64 (Int.ofNat n)),
  (11, [.ext 0, .int .i64 1, .int .i64 9], .sym .i64 31), (11, [.ext 0, .int .i64 2, .int .i64 9], .sym .i64 32), (11, [.ext 0, .int .i64 3, .int .i64 9], .sym .i64 33),
  (11, [.ext 0, .int .i64 4, .int .i64 9], .sym .i64 34), (11, [.ext 0, .int .i64 5, .int .i64 9], .sym .i64 35)]
def symN : BinOp → Nat → AV → AV → Option AV
  | .sub, _, .sym .i64 31, .int .i64 n => bif n == 2 then some (.sym .i64 10) else none
  | .sub, _, .sym .i64 32, .int .i64 n => bif n == 2 then some (.sym .i64 11) else none
  | .sub, _, .sym .i64 33, .int .i64 n => bif n == 2 then some (.sym .i64 12) else none
  | .sub, _, .sym .i64 34, .int .i64 n => bif n == 2 then some (.sym .i64 13) else none
  | .sub, _, .sym .i64 35, .int .i64 n => bif n == 2 then some (.sym .i64 14) else none
  | _, _, _, _ => none
noncomputable def intsAll : Bool := (List.range 6).all fun n => gives (evalN (envX (conT (conI n)) symN) 1000 4 [.ext 0, .int .i64 0] ⟨0, .nil⟩) 9 (lstV n)
theorem ints_all : intsAll = true := by kernel_rfl
theorem ints_nil : (gives (evalN env 1000 4 [.nilsl, .int .i64 0] ⟨0, .nil⟩) 9 (lstV 0) && gives (evalN env 1000 4 [.esl, .int .i64 0] ⟨0, .nil⟩) 9 (lstV 0)) = true := by kernel_rfl

theorem pick_range (S : Sl) (k : Nat) : 0 ≤ S.pick k 9 ∧ S.pick k 9 < 9 := by
  unfold Sl.pick
  split
  · exact aroundI_range (by omega)
  · omega

theorem symN_ok {S : Sl} (x a : Int) (w0 : World) (op : BinOp) (t : Nat) (u y v : AV) (e : symN op t u y = some v) (c : Cx) (w : World) (xv yv : Value)
    (hx : @crel (valX (rhoI S x a) S.xs w0) c w u xv) (hy : @crel (valX (rhoI S x a) S.xs w0) c w y yv) :
    (∀ ox oy, (eqGuard op t ox oy xv yv).run Tryz.prog w = .ok () w) ∧ ∃ cv, (binOp op t xv yv).run Tryz.prog w = .ok cv w ∧ @crel (valX (rhoI S x a) S.xs w0) c w v cv := by
  letI V := valX (rhoI S x a) S.xs w0
  have go : ∀ k, (∀ ox oy, (eqGuard .sub t ox oy (.int .i64 (S.pick k 9)) (.int .i64 2)) = pure ()) → (∀ ox oy, (eqGuard .sub t ox oy (.int .i64 (S.pick k 9)) (.int .i64 2)).run Tryz.prog w = .ok () w) ∧
      ∃ cv, (binOp .sub t (.int .i64 (S.pick k 9)) (.int .i64 2)).run Tryz.prog w = .ok cv w ∧ cv = .int .i64 (S.pick k 9 - 2) := by
    intro k hg
    have hr := pick_range S k
    obtain ⟨cv, q1, q2⟩ := intBin_ok (P := Tryz.prog) (c := c) (w := w) (t := t) (op := .sub) (k := .i64) (a := S.pick k 9) (b := 2) (v := .int .i64 (IntKind.i64.wrap (S.pick k 9 - 2))) rfl rfl
    rw [wrap_in (by unfold inI64; omega)] at q2
    exact ⟨fun ox oy => by rw [hg]; rfl, cv, q1, by simpa only [crel] using q2⟩
  unfold symN at e
  split at e
  all_goals first
    | (cases e; done)
    | (obtain ⟨e1, e2⟩ := cond_some e
       cases e2
       simp only [beq_iff_eq] at e1
       subst e1
       simp only [crel] at hx hy
       subst hx; subst hy
       first
       | (obtain ⟨k1, cv, k2, k3⟩ := go 1 (fun _ _ => rfl); exact ⟨k1, cv, k2, k3⟩)
       | (obtain ⟨k1, cv, k2, k3⟩ := go 2 (fun _ _ => rfl); exact ⟨k1, cv, k2, k3⟩)
       | (obtain ⟨k1, cv, k2, k3⟩ := go 3 (fun _ _ => rfl); exact ⟨k1, cv, k2, k3⟩)
       | (obtain ⟨k1, cv, k2, k3⟩ := go 4 (fun _ _ => rfl); exact ⟨k1, cv, k2, k3⟩)
       | (obtain ⟨k1, cv, k2, k3⟩ := go 5 (fun _ _ => rfl); exact ⟨k1, cv, k2, k3⟩))

theorem ints_con {S : Sl} (hS : SlOK S) (x a : Int) (u : World) {n : Nat} (hn : S.pick 0 6 = Int.ofNat n) : @ConOK (valX (rhoI S x a) S.xs u) 4 [.ext 0, .int .i64 0] (lstV n) := by
  letI V := valX (rhoI S x a) S.xs u
  have hn6 : n < 6 := by
    have : S.pick 0 6 < 6 := by
      unfold Sl.pick
      split
      · exact (aroundI_range (by omega)).2
      · omega
    rw [hn] at this
    have h2 : ((n : Nat) : Int) < 6 := this
    omega
  have h4 := ints_all
  unfold intsAll at h4
  rw [List.all_eq_true] at h4
  have hg := h4 n (List.mem_range.2 hn6)
  refine con_of_run (okX ?_ (symN_ok x a u)) rfl hg
  intro f args v hcon
  refine conT_ok hcon (Q := ConOK) ?_
  intro z hz
  simp only [conI, List.mem_cons, List.not_mem_nil, or_false] at hz
  have lit : ∀ k, k < 6 → ∀ j, rhoI S x a j = S.pick k 9 → ConOK 11 [.ext 0, .int .i64 (Int.ofNat k), .int .i64 9] (.sym .i64 j) := fun k hk j hj =>
    pick_con hS hk (.inr rfl) (rhoI S x a) u _ fun c w => by
      show Value.int .i64 (S.pick k 9) = Value.int .i64 (rhoI S x a j)
      rw [hj]
  rcases hz with rfl | rfl | rfl | rfl | rfl | rfl
  · exact pick_con (k := 0) hS (by omega) (.inl rfl) (rhoI S x a) u _ fun c w => by
      show Value.int .i64 (S.pick 0 6) = Value.int .i64 (Int.ofNat n)
      rw [hn]
  · exact lit 1 (by omega) 31 rfl
  · exact lit 2 (by omega) 32 rfl
  · exact lit 3 (by omega) 33 rfl
  · exact lit 4 (by omega) 34 rfl
  · exact lit 5 (by omega) 35 rfl
end Rfx.RfxEnvB
