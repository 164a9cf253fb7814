/- The small functions of the outcomes: what they compute, by running them on numbers that are not known. -/
import Derived.Test.YtnjpcjnkhelfoacGreatDoorRfxEnvC2
import Derived.Test.YtnjpcjnkhelfoacGreatDoorRfxGen
set_option linter.unusedSectionVars false
set_option linter.unusedVariables false
set_option linter.unusedSimpArgs false
set_option linter.unnecessarySimpa false
namespace Rfx.RfxEnvC
set_option maxRecDepth 20000
open Go Go.Proofs

noncomputable def envX (con : Nat → List AV → Option AV) (sym : BinOp → Nat → AV → AV → Option AV) : Env := { env with con := con, sym := sym }
theorem okX [Val] {con : Nat → List AV → Option AV} {sym : BinOp → Nat → AV → AV → Option AV}
    (hc : ∀ f args v, con f args = some v → ∀ c h w (A : Array Value) n, HRel c h w → crels c w args A.toList → CallsIn (FR none) n Tryz.prog f A w (CPost c h w (.ret v) h))
    (hs : ∀ op t x y v, sym op t x y = some v → ∀ (c : Cx) (w : World) (xv yv : Value), crel c w x xv → crel c w y yv →
      (∀ ox oy, (eqGuard op t ox oy xv yv).run Tryz.prog w = .ok () w) ∧ ∃ cv, (binOp op t xv yv).run Tryz.prog w = .ok cv w ∧ crel c w v cv) :
    FnOK Tryz.prog (envX con sym) where
  tab := { ty := ok.tab.ty, fn := ok.tab.fn, ext := ok.tab.ext, sym := hs, mixed := ok.tab.mixed }
  con := hc
  draws := fun f fn cd h hb => by
    rw [drawsOk_congr (E := env) (E' := envX con sym) rfl]
    exact ok.draws f fn cd h hb

/-- an outcome -/
def outV (k a e : Int) : Value := .agg #[.int .i64 k, .int .i64 a, .int .i64 e]
def outS (i : Nat) : AV := .agg [.sym .i64 i, .sym .i64 (i + 1), .sym .i64 (i + 2)]
def outL (k : Int) : AV := .agg [.int .i64 k, .sym .i64 1, .sym .i64 2]
def rho6 (k a e k' a' e' : Int) : Nat → Int := fun | 0 => k | 1 => a | 2 => e | 3 => k' | 4 => a' | 5 => e' | _ => 0
@[reducible] def val6 (k a e k' a' e' : Int) (w : World) : Val := valAt (rho6 k a e k' a' e') w

theorem out0_rel (k a e k' a' e' : Int) (u : World) (c : Cx) (w : World) : @crel (val6 k a e k' a' e' u) c w (outS 0) (outV k a e) := by
  letI := val6 k a e k' a' e' u
  refine ⟨#[.int .i64 k, .int .i64 a, .int .i64 e], rfl, ?_⟩
  exact crels_cons (by simp [crel]; rfl) (crels_cons (by simp [crel]; rfl) (crels_one (by simp [crel]; rfl)))
theorem out3_rel (k a e k' a' e' : Int) (u : World) (c : Cx) (w : World) : @crel (val6 k a e k' a' e' u) c w (outS 3) (outV k' a' e') := by
  letI := val6 k a e k' a' e' u
  refine ⟨#[.int .i64 k', .int .i64 a', .int .i64 e'], rfl, ?_⟩
  exact crels_cons (by simp [crel]; rfl) (crels_cons (by simp [crel]; rfl) (crels_one (by simp [crel]; rfl)))
/-- the calls of a function of one, of two outcomes come to a plain value -/
def Gives1 (f : Nat) (k a e : Int) (v : AV) : Prop :=
  ∀ (V : Val) (c : Cx) (h : AH) (w : World) (n : Nat), @HRel V c h w → CallsIn (FR none) n Tryz.prog f #[outV k a e] w (@CPost V c h w (.ret v) h)
def Gives2 (f : Nat) (k a e k' a' e' : Int) (v : AV) : Prop :=
  ∀ (V : Val) (c : Cx) (h : AH) (w : World) (n : Nat), @HRel V c h w → CallsIn (FR none) n Tryz.prog f #[outV k a e, outV k' a' e'] w (@CPost V c h w (.ret v) h)

theorem out_inv [Val] {c : Cx} {w : World} {x y z : AV} {kx ky kz : IntKind} {v : Value} (h : crel c w (.agg [x, y, z]) v) (hx : kindI x = some kx) (hy : kindI y = some ky) (hz : kindI z = some kz) :
    v = .agg #[.int kx (denI x), .int ky (denI y), .int kz (denI z)] := by
  simp only [crel, crels] at h
  obtain ⟨B, rfl, v1, y1, h1, h2, v2, y2, h3, h4, v3, y3, h5, h6, h7⟩ := h
  subst h7; subst h5; subst h3
  rw [crel_denI h2 hx, crel_denI h4 hy, crel_denI h6 hz] at h1
  congr 1
  exact Array.ext' h1

def symT (sg : AV → AV → Option Nat) : BinOp → Nat → AV → AV → Option AV := fun op _ x y => symI sg op x y
def noCon : Nat → List AV → Option AV := fun _ _ => none
theorem noCon_ok [Val] : ∀ f args v, noCon f args = some v → ∀ c h w (A : Array Value) n, HRel c h w → crels c w args A.toList → CallsIn (FR none) n Tryz.prog f A w (CPost c h w (.ret v) h) :=
  fun _ _ _ e => by cases e

/-! ### the place of a kind -/
def sgC (s : Nat) : AV → AV → Option Nat
  | .sym _ 0, .int _ n => if n = 0 ∨ n = 1 ∨ n = 2 then some s else none
  | _, _ => none
noncomputable def envP (s : Nat) : Env := envX noCon (symT (sgC s))
theorem okP [Val] {s : Nat} (h : ∀ n : Int, n = 0 ∨ n = 1 ∨ n = 2 → signI (Val.val 0) n = s) : FnOK Tryz.prog (envP s) :=
  okX noCon_ok fun op t x y v e => symI_ok (sg := sgC s) (fun x y s' e => by
    unfold sgC at e
    split at e
    · split at e
      · rename_i hn; cases e; exact h _ hn
      · cases e
    · cases e) e

theorem place_lit : ((gives (evalN (envP 0) 1000 11 [outL 1] ⟨0, .nil⟩) 3 (.int .i64 0) && gives (evalN (envP 0) 1000 11 [outL 2] ⟨0, .nil⟩) 3 (.int .i64 1) && gives (evalN (envP 0) 1000 11 [outL 0] ⟨0, .nil⟩) 3 (.int .i64 2)) &&
    (gives (evalN (envP 0) 1000 13 [outL 1] ⟨0, .nil⟩) 3 (.int .i64 0) && gives (evalN (envP 0) 1000 13 [outL 2] ⟨0, .nil⟩) 3 (.int .i64 1) && gives (evalN (envP 0) 1000 13 [outL 0] ⟨0, .nil⟩) 3 (.int .i64 2))) = true := by kernel_rfl
theorem place_sym : ((gives (evalN (envP 0) 1000 11 [outS 0] ⟨0, .nil⟩) 3 (.int .i64 3) && gives (evalN (envP 2) 1000 11 [outS 0] ⟨0, .nil⟩) 3 (.int .i64 3)) &&
    (gives (evalN (envP 0) 1000 13 [outS 0] ⟨0, .nil⟩) 3 (.int .i64 3) && gives (evalN (envP 2) 1000 13 [outS 0] ⟨0, .nil⟩) 3 (.int .i64 3))) = true := by kernel_rfl

def pl (k : Int) : Nat := if k = 1 then 0 else if k = 2 then 1 else if k = 0 then 2 else 3
theorem pl_lt (k : Int) : pl k < 4 := by unfold pl; split <;> (try split) <;> (try split) <;> omega

theorem gives1_lit {f : Nat} {k a e : Int} {v : AV} (hg : gives (evalN (envP 0) 1000 f [outL k] ⟨0, .nil⟩) 3 v = true) (hv : v.flat = true) : Gives1 f k a e v := by
  intro V c h w n r
  -- numbers that stand for themselves: the kind is written down, so any number less than all will do
  let ρ : Nat → Int := fun | 0 => -1 | 1 => a | 2 => e | _ => 0
  refine con_of_run2 (V1 := V) (E := envP 0) ρ (fun u => @okP (valAt ρ u) 0 fun n hn => ?_) hg hv c h w _ n r ?_
  · show signI (-1) n = 0
    unfold signI; rw [if_pos (by omega)]
  · letI := valAt ρ w
    refine crels_one ⟨#[.int .i64 k, .int .i64 a, .int .i64 e], rfl, ?_⟩
    exact crels_cons (by simp [crel]) (crels_cons (by simp [crel]; rfl) (crels_one (by simp [crel]; rfl)))
theorem gives1_sym {f s : Nat} {k a e : Int} {v : AV} (hs : ∀ n : Int, n = 0 ∨ n = 1 ∨ n = 2 → signI k n = s) (hg : gives (evalN (envP s) 1000 f [outS 0] ⟨0, .nil⟩) 3 v = true) (hv : v.flat = true) : Gives1 f k a e v := by
  intro V c h w n r
  exact con_of_run2 (V1 := V) (E := envP s) (rho6 k a e 0 0 0) (fun u => @okP (val6 k a e 0 0 0 u) s hs) hg hv c h w _ n r (@crels_one (val6 k a e 0 0 0 w) _ _ _ _ (out0_rel k a e 0 0 0 w c.bare w))

theorem place_ok (f : Nat) (hf : f = 11 ∨ f = 13) (k a e : Int) : Gives1 f k a e (.int .i64 (pl k)) := by
  have hl := place_lit
  have hy := place_sym
  simp only [Bool.and_eq_true] at hl hy
  unfold pl
  by_cases h1 : k = 1
  · subst h1
    rcases hf with rfl | rfl
    · exact gives1_lit hl.1.1.1 rfl
    · exact gives1_lit hl.2.1.1 rfl
  · rw [if_neg h1]
    by_cases h2 : k = 2
    · subst h2
      rcases hf with rfl | rfl
      · exact gives1_lit hl.1.1.2 rfl
      · exact gives1_lit hl.2.1.2 rfl
    · rw [if_neg h2]
      by_cases h0 : k = 0
      · subst h0
        rcases hf with rfl | rfl
        · exact gives1_lit hl.1.2 rfl
        · exact gives1_lit hl.2.2 rfl
      · rw [if_neg h0]
        by_cases hn : k < 0
        · have hs : ∀ n : Int, n = 0 ∨ n = 1 ∨ n = 2 → signI k n = 0 := fun n hh => by unfold signI; rw [if_pos (by omega)]
          rcases hf with rfl | rfl
          · exact gives1_sym hs hy.1.1 rfl
          · exact gives1_sym hs hy.2.1 rfl
        · have hs : ∀ n : Int, n = 0 ∨ n = 1 ∨ n = 2 → signI k n = 2 := fun n hh => by unfold signI; rw [if_neg (by omega), if_neg (by omega)]
          rcases hf with rfl | rfl
          · exact gives1_sym hs hy.1.2 rfl
          · exact gives1_sym hs hy.2.2 rfl

/-! ### the order -/
def sgW (s1 s2 : Nat) : AV → AV → Option Nat
  | .sym _ 1, .sym _ 4 => some s1
  | .sym _ 2, .sym _ 5 => some s2
  | .sym _ i, .sym _ j => bif Nat.beq i j then some 1 else none
  | _, _ => none
def conW (f p q : Nat) : Nat → List AV → Option AV := conT [(f, [outS 0], .int .i64 (Int.ofNat p)), (f, [outS 3], .int .i64 (Int.ofNat q))]
def worseS (p q s1 s2 : Nat) : Bool := bif Nat.beq p q then (bif Nat.beq s1 1 then Nat.beq s2 0 else Nat.beq s1 0) else Nat.blt p q
noncomputable def worseAll (g f : Nat) : Bool := (List.range 4).all fun p => (List.range 4).all fun q => (List.range 3).all fun s1 => (List.range 3).all fun s2 =>
  gives (evalN (envX (conW f p q) (symT (sgW s1 s2))) 1000 g [outS 0, outS 3] ⟨0, .nil⟩) 3 (.bool (worseS p q s1 s2))
theorem worse_all : worseAll 5 11 = true := by kernel_rfl
theorem rworse_all : worseAll 6 13 = true := by kernel_rfl

def worseI (k a e k' a' e' : Int) : Bool := worseS (pl k) (pl k') (signI a a') (signI e e')
theorem signI_lt (a b : Int) : signI a b < 3 := by unfold signI; split <;> (try split) <;> omega
theorem signI_self (a : Int) : signI a a = 1 := by unfold signI; rw [if_neg (by omega), if_pos rfl]

theorem worse_of {g f : Nat} (hf : f = 11 ∨ f = 13) (hall : worseAll g f = true) (k a e k' a' e' : Int) : Gives2 g k a e k' a' e' (.bool (worseI k a e k' a' e')) := by
  intro V c h w n r
  have h4 := hall
  unfold worseAll at h4
  simp only [List.all_eq_true, List.mem_range] at h4
  have hg := h4 (pl k) (pl_lt k) (pl k') (pl_lt k') (signI a a') (signI_lt _ _) (signI e e') (signI_lt _ _)
  refine con_of_run2 (V1 := V) (rho6 k a e k' a' e') (fun u => @okX (val6 k a e k' a' e' u) _ _ ?_ ?_) hg rfl c h w _ n r
    (@crels_cons (val6 k a e k' a' e' w) _ _ _ _ _ _ (out0_rel k a e k' a' e' w _ _) (@crels_one (val6 k a e k' a' e' w) _ _ _ _ (out3_rel k a e k' a' e' w _ _)))
  · intro f' args v hcon
    refine conT_ok hcon (Q := fun f args v => ∀ c h w (A : Array Value) n, @HRel (val6 k a e k' a' e' u) c h w → @crels (val6 k a e k' a' e' u) c w args A.toList → CallsIn (FR none) n Tryz.prog f A w (@CPost (val6 k a e k' a' e' u) c h w (.ret v) h)) ?_
    intro x hx
    simp only [List.mem_cons, List.not_mem_nil, or_false] at hx
    rcases hx with rfl | rfl
    · intro c h w A n r hA
      obtain ⟨x, hu, hv⟩ := @crels_of_one (val6 k a e k' a' e' u) _ _ _ _ hA
      have hu2 : x = outV k a e := @out_inv (val6 k a e k' a' e' u) _ _ _ _ _ _ _ _ _ hv rfl rfl rfl
      have : A = #[outV k a e] := Array.ext' (by rw [hu, hu2])
      subst this
      exact place_ok f hf k a e _ c h w n r
    · intro c h w A n r hA
      obtain ⟨x, hu, hv⟩ := @crels_of_one (val6 k a e k' a' e' u) _ _ _ _ hA
      have hu2 : x = outV k' a' e' := @out_inv (val6 k a e k' a' e' u) _ _ _ _ _ _ _ _ _ hv rfl rfl rfl
      have : A = #[outV k' a' e'] := Array.ext' (by rw [hu, hu2])
      subst this
      exact place_ok f hf k' a' e' _ c h w n r
  · intro op t x y v he
    refine @symI_ok (val6 k a e k' a' e' u) _ (sgW (signI a a') (signI e e')) (fun x y s hs => ?_) _ _ _ _ _ he
    unfold sgW at hs
    split at hs
    · cases hs; rfl
    · cases hs; rfl
    · rename_i i _ j _ _
      obtain ⟨h1, h2⟩ := cond_some hs
      have := beq_t h1
      subst this
      cases h2
      exact signI_self _
    · cases hs
end Rfx.RfxEnvC
