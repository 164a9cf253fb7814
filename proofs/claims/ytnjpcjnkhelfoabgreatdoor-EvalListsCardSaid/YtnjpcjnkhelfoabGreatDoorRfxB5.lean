/- The equations hold: every length, every index. -/
import Derived.Test.YtnjpcjnkhelfoabGreatDoorRfxB5r
import Derived.Test.YtnjpcjnkhelfoabGreatDoorRfxB2
set_option linter.unusedSectionVars false
set_option linter.unusedVariables false
set_option linter.unusedSimpArgs false
set_option linter.unnecessarySimpa false
namespace Rfx.RfxEnvB
set_option maxRecDepth 20000
open Go Go.Proofs

theorem inil : gives (evalN env 1000 4 [.nilsl, .int .i64 0] ⟨0, .nil⟩) 9 (lstV 0) = true ∧ gives (evalN env 1000 4 [.esl, .int .i64 0] ⟨0, .nil⟩) 9 (lstV 0) = true := by
  have := ints_nil
  rwa [Bool.and_eq_true] at this
theorem ar_con {S : Sl} (_ : SlOK S) (x a : Int) (u : World) (ha : inI64 a) {j : Int} (hi : aroundI a 9 = j) : @ConOK (valX (rhoI S x a) S.xs u) 5 [.sym .i64 1, .int .i64 9] (.int .i64 j) := by
  letI V := valX (rhoI S x a) S.xs u
  intro c h w A n r hA
  simp only [crels] at hA
  obtain ⟨z1, y1, hz, hv1, z2, y2, hz', hv2, hz''⟩ := hA
  simp only [crel] at hv1 hv2
  subst hv1; subst hv2; subst hz''; subst hz'
  have : A = #[.int .i64 a, .int .i64 9] := Array.ext' (by rw [hz]; rfl)
  subst this
  exact around_ok (.inr rfl) ha V _ (fun c w => by rw [hi]; simp only [crel]) c h w n r
theorem hx_con {S : Sl} {x a : Int} {u : World} {i j : Int} (hi : aroundI a 9 = j) {t b : AV} (h : @ConOK (valX (rhoI S x a) S.xs u) 6 [t, b, .sym .i64 2, .sym .i64 0] (.bool true)) (hj : i = j - 2 := by rfl) :
    @ConOK (valX (rhoI S x a) S.xs u) 6 [t, b, .int .i64 i, .sym .i64 0] (.bool true) := by
  letI V := valX (rhoI S x a) S.xs u
  intro c hh w A n r hA
  refine h c hh w A n r ?_
  simp only [crels] at hA ⊢
  obtain ⟨v1, y1, e1, h1, v2, y2, e2, h2, v3, y3, e3, h3, h4⟩ := hA
  refine ⟨v1, y1, e1, h1, v2, y2, e2, h2, v3, y3, e3, ?_, h4⟩
  simp only [crel] at h3 ⊢
  rw [h3, hj, ← hi]
  rfl

theorem ok_m0x0 {S : Sl} (hS : SlOK S) (x a : Int) (u : World) (hn : S.pick 0 6 = Int.ofNat 0) (ha : inI64 a) (hi : aroundI a 9 = 0) : @FnOK (valX (rhoI S x a) S.xs u) Tryz.prog (envX (conT m0x0) (symT sgSame)) := by
  letI V := valX (rhoI S x a) S.xs u
  refine okX (fun f args v hcon => ?_) sgSame_ok
  refine conT_ok hcon (Q := ConOK) ?_
  intro z hz
  simp only [m0x0, List.mem_cons, List.not_mem_nil, or_false] at hz
  rcases hz with rfl | rfl | rfl | rfl | rfl | rfl | rfl | rfl | rfl | rfl | rfl
  · exact ar_con hS x a u ha hi
  · exact lives_ok
  · exact hx_con hi (con_of_run okQ q0C0 q0G0)
  · exact hx_con hi (con_of_run okQ q0C1 q0G1)
  · exact con_of_run okQ q0C2 q0G2
  · exact con_of_run okQ q0C3 q0G3
  · exact con_of_run okQ q0C4 q0G4
  · exact con_of_run okQ q0C5 q0G5
  · exact con_of_run ok rfl inil.1
  · exact con_of_run ok rfl inil.2
  · exact ints_con hS x a u hn
theorem ok_m0x1 {S : Sl} (hS : SlOK S) (x a : Int) (u : World) (hn : S.pick 0 6 = Int.ofNat 0) (ha : inI64 a) (hi : aroundI a 9 = 1) : @FnOK (valX (rhoI S x a) S.xs u) Tryz.prog (envX (conT m0x1) (symT sgSame)) := by
  letI V := valX (rhoI S x a) S.xs u
  refine okX (fun f args v hcon => ?_) sgSame_ok
  refine conT_ok hcon (Q := ConOK) ?_
  intro z hz
  simp only [m0x1, List.mem_cons, List.not_mem_nil, or_false] at hz
  rcases hz with rfl | rfl | rfl | rfl | rfl | rfl | rfl | rfl | rfl | rfl | rfl
  · exact ar_con hS x a u ha hi
  · exact lives_ok
  · exact hx_con hi (con_of_run okQ q0C0 q0G0)
  · exact hx_con hi (con_of_run okQ q0C1 q0G1)
  · exact con_of_run okQ q0C6 q0G6
  · exact con_of_run okQ q0C7 q0G7
  · exact con_of_run okQ q0C8 q0G8
  · exact con_of_run okQ q0C9 q0G9
  · exact con_of_run ok rfl inil.1
  · exact con_of_run ok rfl inil.2
  · exact ints_con hS x a u hn
theorem ok_m0x2 {S : Sl} (hS : SlOK S) (x a : Int) (u : World) (hn : S.pick 0 6 = Int.ofNat 0) (ha : inI64 a) (hi : aroundI a 9 = 2) : @FnOK (valX (rhoI S x a) S.xs u) Tryz.prog (envX (conT m0x2) (symT sgSame)) := by
  letI V := valX (rhoI S x a) S.xs u
  refine okX (fun f args v hcon => ?_) sgSame_ok
  refine conT_ok hcon (Q := ConOK) ?_
  intro z hz
  simp only [m0x2, List.mem_cons, List.not_mem_nil, or_false] at hz
  rcases hz with rfl | rfl | rfl | rfl | rfl | rfl | rfl | rfl | rfl | rfl | rfl
  · exact ar_con hS x a u ha hi
  · exact lives_ok
  · exact hx_con hi (con_of_run okQ q0C0 q0G0)
  · exact hx_con hi (con_of_run okQ q0C1 q0G1)
  · exact con_of_run okQ q0C10 q0G10
  · exact con_of_run okQ q0C11 q0G11
  · exact con_of_run okQ q0C12 q0G12
  · exact con_of_run okQ q0C13 q0G13
  · exact con_of_run ok rfl inil.1
  · exact con_of_run ok rfl inil.2
  · exact ints_con hS x a u hn
theorem ok_m0x3 {S : Sl} (hS : SlOK S) (x a : Int) (u : World) (hn : S.pick 0 6 = Int.ofNat 0) (ha : inI64 a) (hi : aroundI a 9 = 3) : @FnOK (valX (rhoI S x a) S.xs u) Tryz.prog (envX (conT m0x3) (symT sgSame)) := by
  letI V := valX (rhoI S x a) S.xs u
  refine okX (fun f args v hcon => ?_) sgSame_ok
  refine conT_ok hcon (Q := ConOK) ?_
  intro z hz
  simp only [m0x3, List.mem_cons, List.not_mem_nil, or_false] at hz
  rcases hz with rfl | rfl | rfl | rfl | rfl | rfl | rfl | rfl | rfl | rfl | rfl
  · exact ar_con hS x a u ha hi
  · exact lives_ok
  · exact hx_con hi (con_of_run okQ q0C0 q0G0)
  · exact hx_con hi (con_of_run okQ q0C1 q0G1)
  · exact con_of_run okQ q0C14 q0G14
  · exact con_of_run okQ q0C15 q0G15
  · exact con_of_run okQ q0C16 q0G16
  · exact con_of_run okQ q0C17 q0G17
  · exact con_of_run ok rfl inil.1
  · exact con_of_run ok rfl inil.2
  · exact ints_con hS x a u hn
theorem ok_m0x4 {S : Sl} (hS : SlOK S) (x a : Int) (u : World) (hn : S.pick 0 6 = Int.ofNat 0) (ha : inI64 a) (hi : aroundI a 9 = 4) : @FnOK (valX (rhoI S x a) S.xs u) Tryz.prog (envX (conT m0x4) (symT sgSame)) := by
  letI V := valX (rhoI S x a) S.xs u
  refine okX (fun f args v hcon => ?_) sgSame_ok
  refine conT_ok hcon (Q := ConOK) ?_
  intro z hz
  simp only [m0x4, List.mem_cons, List.not_mem_nil, or_false] at hz
  rcases hz with rfl | rfl | rfl | rfl | rfl | rfl | rfl | rfl | rfl | rfl | rfl
  · exact ar_con hS x a u ha hi
  · exact lives_ok
  · exact hx_con hi (con_of_run okQ q0C0 q0G0)
  · exact hx_con hi (con_of_run okQ q0C1 q0G1)
  · exact con_of_run okQ q0C18 q0G18
  · exact con_of_run okQ q0C19 q0G19
  · exact con_of_run okQ q0C20 q0G20
  · exact con_of_run okQ q0C21 q0G21
  · exact con_of_run ok rfl inil.1
  · exact con_of_run ok rfl inil.2
  · exact ints_con hS x a u hn
theorem ok_m0x5 {S : Sl} (hS : SlOK S) (x a : Int) (u : World) (hn : S.pick 0 6 = Int.ofNat 0) (ha : inI64 a) (hi : aroundI a 9 = 5) : @FnOK (valX (rhoI S x a) S.xs u) Tryz.prog (envX (conT m0x5) (symT sgSame)) := by
  letI V := valX (rhoI S x a) S.xs u
  refine okX (fun f args v hcon => ?_) sgSame_ok
  refine conT_ok hcon (Q := ConOK) ?_
  intro z hz
  simp only [m0x5, List.mem_cons, List.not_mem_nil, or_false] at hz
  rcases hz with rfl | rfl | rfl | rfl | rfl | rfl | rfl | rfl | rfl | rfl | rfl
  · exact ar_con hS x a u ha hi
  · exact lives_ok
  · exact hx_con hi (con_of_run okQ q0C0 q0G0)
  · exact hx_con hi (con_of_run okQ q0C1 q0G1)
  · exact con_of_run okQ q0C22 q0G22
  · exact con_of_run okQ q0C23 q0G23
  · exact con_of_run okQ q0C24 q0G24
  · exact con_of_run okQ q0C25 q0G25
  · exact con_of_run ok rfl inil.1
  · exact con_of_run ok rfl inil.2
  · exact ints_con hS x a u hn
theorem ok_m0x6 {S : Sl} (hS : SlOK S) (x a : Int) (u : World) (hn : S.pick 0 6 = Int.ofNat 0) (ha : inI64 a) (hi : aroundI a 9 = 6) : @FnOK (valX (rhoI S x a) S.xs u) Tryz.prog (envX (conT m0x6) (symT sgSame)) := by
  letI V := valX (rhoI S x a) S.xs u
  refine okX (fun f args v hcon => ?_) sgSame_ok
  refine conT_ok hcon (Q := ConOK) ?_
  intro z hz
  simp only [m0x6, List.mem_cons, List.not_mem_nil, or_false] at hz
  rcases hz with rfl | rfl | rfl | rfl | rfl | rfl | rfl | rfl | rfl | rfl | rfl
  · exact ar_con hS x a u ha hi
  · exact lives_ok
  · exact hx_con hi (con_of_run okQ q0C0 q0G0)
  · exact hx_con hi (con_of_run okQ q0C1 q0G1)
  · exact con_of_run okQ q0C26 q0G26
  · exact con_of_run okQ q0C27 q0G27
  · exact con_of_run okQ q0C28 q0G28
  · exact con_of_run okQ q0C29 q0G29
  · exact con_of_run ok rfl inil.1
  · exact con_of_run ok rfl inil.2
  · exact ints_con hS x a u hn
theorem ok_m0x7 {S : Sl} (hS : SlOK S) (x a : Int) (u : World) (hn : S.pick 0 6 = Int.ofNat 0) (ha : inI64 a) (hi : aroundI a 9 = 7) : @FnOK (valX (rhoI S x a) S.xs u) Tryz.prog (envX (conT m0x7) (symT sgSame)) := by
  letI V := valX (rhoI S x a) S.xs u
  refine okX (fun f args v hcon => ?_) sgSame_ok
  refine conT_ok hcon (Q := ConOK) ?_
  intro z hz
  simp only [m0x7, List.mem_cons, List.not_mem_nil, or_false] at hz
  rcases hz with rfl | rfl | rfl | rfl | rfl | rfl | rfl | rfl | rfl | rfl | rfl
  · exact ar_con hS x a u ha hi
  · exact lives_ok
  · exact hx_con hi (con_of_run okQ q0C0 q0G0)
  · exact hx_con hi (con_of_run okQ q0C1 q0G1)
  · exact con_of_run okQ q0C30 q0G30
  · exact con_of_run okQ q0C31 q0G31
  · exact con_of_run okQ q0C32 q0G32
  · exact con_of_run okQ q0C33 q0G33
  · exact con_of_run ok rfl inil.1
  · exact con_of_run ok rfl inil.2
  · exact ints_con hS x a u hn
theorem ok_m0x8 {S : Sl} (hS : SlOK S) (x a : Int) (u : World) (hn : S.pick 0 6 = Int.ofNat 0) (ha : inI64 a) (hi : aroundI a 9 = 8) : @FnOK (valX (rhoI S x a) S.xs u) Tryz.prog (envX (conT m0x8) (symT sgSame)) := by
  letI V := valX (rhoI S x a) S.xs u
  refine okX (fun f args v hcon => ?_) sgSame_ok
  refine conT_ok hcon (Q := ConOK) ?_
  intro z hz
  simp only [m0x8, List.mem_cons, List.not_mem_nil, or_false] at hz
  rcases hz with rfl | rfl | rfl | rfl | rfl | rfl | rfl | rfl | rfl | rfl | rfl
  · exact ar_con hS x a u ha hi
  · exact lives_ok
  · exact hx_con hi (con_of_run okQ q0C0 q0G0)
  · exact hx_con hi (con_of_run okQ q0C1 q0G1)
  · exact con_of_run okQ q0C34 q0G34
  · exact con_of_run okQ q0C35 q0G35
  · exact con_of_run okQ q0C36 q0G36
  · exact con_of_run okQ q0C37 q0G37
  · exact con_of_run ok rfl inil.1
  · exact con_of_run ok rfl inil.2
  · exact ints_con hS x a u hn
theorem ok_m1x0 {S : Sl} (hS : SlOK S) (x a : Int) (u : World) (hn : S.pick 0 6 = Int.ofNat 1) (ha : inI64 a) (hi : aroundI a 9 = 0) : @FnOK (valX (rhoI S x a) S.xs u) Tryz.prog (envX (conT m1x0) (symT sgSame)) := by
  letI V := valX (rhoI S x a) S.xs u
  refine okX (fun f args v hcon => ?_) sgSame_ok
  refine conT_ok hcon (Q := ConOK) ?_
  intro z hz
  simp only [m1x0, List.mem_cons, List.not_mem_nil, or_false] at hz
  rcases hz with rfl | rfl | rfl | rfl | rfl | rfl | rfl | rfl | rfl
  · exact ar_con hS x a u ha hi
  · exact lives_ok
  · exact hx_con hi (con_of_run okQ q1C0 q1G0)
  · exact hx_con hi (con_of_run okQ q1C1 q1G1)
  · exact con_of_run okQ q1C2 q1G2
  · exact con_of_run okQ q1C3 q1G3
  · exact con_of_run okQ q1C4 q1G4
  · exact con_of_run okQ q1C5 q1G5
  · exact ints_con hS x a u hn
theorem ok_m1x1 {S : Sl} (hS : SlOK S) (x a : Int) (u : World) (hn : S.pick 0 6 = Int.ofNat 1) (ha : inI64 a) (hi : aroundI a 9 = 1) : @FnOK (valX (rhoI S x a) S.xs u) Tryz.prog (envX (conT m1x1) (symT sgSame)) := by
  letI V := valX (rhoI S x a) S.xs u
  refine okX (fun f args v hcon => ?_) sgSame_ok
  refine conT_ok hcon (Q := ConOK) ?_
  intro z hz
  simp only [m1x1, List.mem_cons, List.not_mem_nil, or_false] at hz
  rcases hz with rfl | rfl | rfl | rfl | rfl | rfl | rfl | rfl | rfl
  · exact ar_con hS x a u ha hi
  · exact lives_ok
  · exact hx_con hi (con_of_run okQ q1C0 q1G0)
  · exact hx_con hi (con_of_run okQ q1C1 q1G1)
  · exact con_of_run okQ q1C6 q1G6
  · exact con_of_run okQ q1C7 q1G7
  · exact con_of_run okQ q1C8 q1G8
  · exact con_of_run okQ q1C9 q1G9
  · exact ints_con hS x a u hn
theorem ok_m1x2 {S : Sl} (hS : SlOK S) (x a : Int) (u : World) (hn : S.pick 0 6 = Int.ofNat 1) (ha : inI64 a) (hi : aroundI a 9 = 2) : @FnOK (valX (rhoI S x a) S.xs u) Tryz.prog (envX (conT m1x2) (symT sgSame)) := by
  letI V := valX (rhoI S x a) S.xs u
  refine okX (fun f args v hcon => ?_) sgSame_ok
  refine conT_ok hcon (Q := ConOK) ?_
  intro z hz
  simp only [m1x2, List.mem_cons, List.not_mem_nil, or_false] at hz
  rcases hz with rfl | rfl | rfl | rfl | rfl | rfl | rfl | rfl | rfl | rfl | rfl
  · exact ar_con hS x a u ha hi
  · exact lives_ok
  · exact hx_con hi (con_of_run okQ q1C0 q1G0)
  · exact hx_con hi (con_of_run okQ q1C1 q1G1)
  · exact con_of_run okQ q1C10 q1G10
  · exact con_of_run okQ q1C11 q1G11
  · exact con_of_run okQ q1C12 q1G12
  · exact con_of_run okQ q1C13 q1G13
  · exact con_of_run okQ q1C14 q1G14
  · exact con_of_run okQ q1C15 q1G15
  · exact ints_con hS x a u hn
theorem ok_m1x3 {S : Sl} (hS : SlOK S) (x a : Int) (u : World) (hn : S.pick 0 6 = Int.ofNat 1) (ha : inI64 a) (hi : aroundI a 9 = 3) : @FnOK (valX (rhoI S x a) S.xs u) Tryz.prog (envX (conT m1x3) (symT sgSame)) := by
  letI V := valX (rhoI S x a) S.xs u
  refine okX (fun f args v hcon => ?_) sgSame_ok
  refine conT_ok hcon (Q := ConOK) ?_
  intro z hz
  simp only [m1x3, List.mem_cons, List.not_mem_nil, or_false] at hz
  rcases hz with rfl | rfl | rfl | rfl | rfl | rfl | rfl | rfl | rfl
  · exact ar_con hS x a u ha hi
  · exact lives_ok
  · exact hx_con hi (con_of_run okQ q1C0 q1G0)
  · exact hx_con hi (con_of_run okQ q1C1 q1G1)
  · exact con_of_run okQ q1C16 q1G16
  · exact con_of_run okQ q1C17 q1G17
  · exact con_of_run okQ q1C18 q1G18
  · exact con_of_run okQ q1C19 q1G19
  · exact ints_con hS x a u hn
theorem ok_m1x4 {S : Sl} (hS : SlOK S) (x a : Int) (u : World) (hn : S.pick 0 6 = Int.ofNat 1) (ha : inI64 a) (hi : aroundI a 9 = 4) : @FnOK (valX (rhoI S x a) S.xs u) Tryz.prog (envX (conT m1x4) (symT sgSame)) := by
  letI V := valX (rhoI S x a) S.xs u
  refine okX (fun f args v hcon => ?_) sgSame_ok
  refine conT_ok hcon (Q := ConOK) ?_
  intro z hz
  simp only [m1x4, List.mem_cons, List.not_mem_nil, or_false] at hz
  rcases hz with rfl | rfl | rfl | rfl | rfl | rfl | rfl | rfl | rfl
  · exact ar_con hS x a u ha hi
  · exact lives_ok
  · exact hx_con hi (con_of_run okQ q1C0 q1G0)
  · exact hx_con hi (con_of_run okQ q1C1 q1G1)
  · exact con_of_run okQ q1C20 q1G20
  · exact con_of_run okQ q1C21 q1G21
  · exact con_of_run okQ q1C22 q1G22
  · exact con_of_run okQ q1C23 q1G23
  · exact ints_con hS x a u hn
theorem ok_m1x5 {S : Sl} (hS : SlOK S) (x a : Int) (u : World) (hn : S.pick 0 6 = Int.ofNat 1) (ha : inI64 a) (hi : aroundI a 9 = 5) : @FnOK (valX (rhoI S x a) S.xs u) Tryz.prog (envX (conT m1x5) (symT sgSame)) := by
  letI V := valX (rhoI S x a) S.xs u
  refine okX (fun f args v hcon => ?_) sgSame_ok
  refine conT_ok hcon (Q := ConOK) ?_
  intro z hz
  simp only [m1x5, List.mem_cons, List.not_mem_nil, or_false] at hz
  rcases hz with rfl | rfl | rfl | rfl | rfl | rfl | rfl | rfl | rfl
  · exact ar_con hS x a u ha hi
  · exact lives_ok
  · exact hx_con hi (con_of_run okQ q1C0 q1G0)
  · exact hx_con hi (con_of_run okQ q1C1 q1G1)
  · exact con_of_run okQ q1C24 q1G24
  · exact con_of_run okQ q1C25 q1G25
  · exact con_of_run okQ q1C26 q1G26
  · exact con_of_run okQ q1C27 q1G27
  · exact ints_con hS x a u hn
theorem ok_m1x6 {S : Sl} (hS : SlOK S) (x a : Int) (u : World) (hn : S.pick 0 6 = Int.ofNat 1) (ha : inI64 a) (hi : aroundI a 9 = 6) : @FnOK (valX (rhoI S x a) S.xs u) Tryz.prog (envX (conT m1x6) (symT sgSame)) := by
  letI V := valX (rhoI S x a) S.xs u
  refine okX (fun f args v hcon => ?_) sgSame_ok
  refine conT_ok hcon (Q := ConOK) ?_
  intro z hz
  simp only [m1x6, List.mem_cons, List.not_mem_nil, or_false] at hz
  rcases hz with rfl | rfl | rfl | rfl | rfl | rfl | rfl | rfl | rfl
  · exact ar_con hS x a u ha hi
  · exact lives_ok
  · exact hx_con hi (con_of_run okQ q1C0 q1G0)
  · exact hx_con hi (con_of_run okQ q1C1 q1G1)
  · exact con_of_run okQ q1C28 q1G28
  · exact con_of_run okQ q1C29 q1G29
  · exact con_of_run okQ q1C30 q1G30
  · exact con_of_run okQ q1C31 q1G31
  · exact ints_con hS x a u hn
theorem ok_m1x7 {S : Sl} (hS : SlOK S) (x a : Int) (u : World) (hn : S.pick 0 6 = Int.ofNat 1) (ha : inI64 a) (hi : aroundI a 9 = 7) : @FnOK (valX (rhoI S x a) S.xs u) Tryz.prog (envX (conT m1x7) (symT sgSame)) := by
  letI V := valX (rhoI S x a) S.xs u
  refine okX (fun f args v hcon => ?_) sgSame_ok
  refine conT_ok hcon (Q := ConOK) ?_
  intro z hz
  simp only [m1x7, List.mem_cons, List.not_mem_nil, or_false] at hz
  rcases hz with rfl | rfl | rfl | rfl | rfl | rfl | rfl | rfl | rfl
  · exact ar_con hS x a u ha hi
  · exact lives_ok
  · exact hx_con hi (con_of_run okQ q1C0 q1G0)
  · exact hx_con hi (con_of_run okQ q1C1 q1G1)
  · exact con_of_run okQ q1C32 q1G32
  · exact con_of_run okQ q1C33 q1G33
  · exact con_of_run okQ q1C34 q1G34
  · exact con_of_run okQ q1C35 q1G35
  · exact ints_con hS x a u hn
theorem ok_m1x8 {S : Sl} (hS : SlOK S) (x a : Int) (u : World) (hn : S.pick 0 6 = Int.ofNat 1) (ha : inI64 a) (hi : aroundI a 9 = 8) : @FnOK (valX (rhoI S x a) S.xs u) Tryz.prog (envX (conT m1x8) (symT sgSame)) := by
  letI V := valX (rhoI S x a) S.xs u
  refine okX (fun f args v hcon => ?_) sgSame_ok
  refine conT_ok hcon (Q := ConOK) ?_
  intro z hz
  simp only [m1x8, List.mem_cons, List.not_mem_nil, or_false] at hz
  rcases hz with rfl | rfl | rfl | rfl | rfl | rfl | rfl | rfl | rfl
  · exact ar_con hS x a u ha hi
  · exact lives_ok
  · exact hx_con hi (con_of_run okQ q1C0 q1G0)
  · exact hx_con hi (con_of_run okQ q1C1 q1G1)
  · exact con_of_run okQ q1C36 q1G36
  · exact con_of_run okQ q1C37 q1G37
  · exact con_of_run okQ q1C38 q1G38
  · exact con_of_run okQ q1C39 q1G39
  · exact ints_con hS x a u hn
theorem ok_m2x0 {S : Sl} (hS : SlOK S) (x a : Int) (u : World) (hn : S.pick 0 6 = Int.ofNat 2) (ha : inI64 a) (hi : aroundI a 9 = 0) : @FnOK (valX (rhoI S x a) S.xs u) Tryz.prog (envX (conT m2x0) (symT sgSame)) := by
  letI V := valX (rhoI S x a) S.xs u
  refine okX (fun f args v hcon => ?_) sgSame_ok
  refine conT_ok hcon (Q := ConOK) ?_
  intro z hz
  simp only [m2x0, List.mem_cons, List.not_mem_nil, or_false] at hz
  rcases hz with rfl | rfl | rfl | rfl | rfl | rfl | rfl | rfl | rfl
  · exact ar_con hS x a u ha hi
  · exact lives_ok
  · exact hx_con hi (con_of_run okQ q2C0 q2G0)
  · exact hx_con hi (con_of_run okQ q2C1 q2G1)
  · exact con_of_run okQ q2C2 q2G2
  · exact con_of_run okQ q2C3 q2G3
  · exact con_of_run okQ q2C4 q2G4
  · exact con_of_run okQ q2C5 q2G5
  · exact ints_con hS x a u hn
theorem ok_m2x1 {S : Sl} (hS : SlOK S) (x a : Int) (u : World) (hn : S.pick 0 6 = Int.ofNat 2) (ha : inI64 a) (hi : aroundI a 9 = 1) : @FnOK (valX (rhoI S x a) S.xs u) Tryz.prog (envX (conT m2x1) (symT sgSame)) := by
  letI V := valX (rhoI S x a) S.xs u
  refine okX (fun f args v hcon => ?_) sgSame_ok
  refine conT_ok hcon (Q := ConOK) ?_
  intro z hz
  simp only [m2x1, List.mem_cons, List.not_mem_nil, or_false] at hz
  rcases hz with rfl | rfl | rfl | rfl | rfl | rfl | rfl | rfl | rfl
  · exact ar_con hS x a u ha hi
  · exact lives_ok
  · exact hx_con hi (con_of_run okQ q2C0 q2G0)
  · exact hx_con hi (con_of_run okQ q2C1 q2G1)
  · exact con_of_run okQ q2C6 q2G6
  · exact con_of_run okQ q2C7 q2G7
  · exact con_of_run okQ q2C8 q2G8
  · exact con_of_run okQ q2C9 q2G9
  · exact ints_con hS x a u hn
theorem ok_m2x2 {S : Sl} (hS : SlOK S) (x a : Int) (u : World) (hn : S.pick 0 6 = Int.ofNat 2) (ha : inI64 a) (hi : aroundI a 9 = 2) : @FnOK (valX (rhoI S x a) S.xs u) Tryz.prog (envX (conT m2x2) (symT sgSame)) := by
  letI V := valX (rhoI S x a) S.xs u
  refine okX (fun f args v hcon => ?_) sgSame_ok
  refine conT_ok hcon (Q := ConOK) ?_
  intro z hz
  simp only [m2x2, List.mem_cons, List.not_mem_nil, or_false] at hz
  rcases hz with rfl | rfl | rfl | rfl | rfl | rfl | rfl | rfl | rfl | rfl | rfl | rfl
  · exact ar_con hS x a u ha hi
  · exact lives_ok
  · exact hx_con hi (con_of_run okQ q2C0 q2G0)
  · exact hx_con hi (con_of_run okQ q2C1 q2G1)
  · exact con_of_run okQ q2C10 q2G10
  · exact con_of_run okQ q2C11 q2G11
  · exact con_of_run okQ q2C12 q2G12
  · exact con_of_run okQ q2C13 q2G13
  · exact con_of_run okQ q2C14 q2G14
  · exact con_of_run okQ q2C15 q2G15
  · exact con_of_run okQ q2C16 q2G16
  · exact ints_con hS x a u hn
theorem ok_m2x3 {S : Sl} (hS : SlOK S) (x a : Int) (u : World) (hn : S.pick 0 6 = Int.ofNat 2) (ha : inI64 a) (hi : aroundI a 9 = 3) : @FnOK (valX (rhoI S x a) S.xs u) Tryz.prog (envX (conT m2x3) (symT sgSame)) := by
  letI V := valX (rhoI S x a) S.xs u
  refine okX (fun f args v hcon => ?_) sgSame_ok
  refine conT_ok hcon (Q := ConOK) ?_
  intro z hz
  simp only [m2x3, List.mem_cons, List.not_mem_nil, or_false] at hz
  rcases hz with rfl | rfl | rfl | rfl | rfl | rfl | rfl | rfl | rfl | rfl | rfl | rfl
  · exact ar_con hS x a u ha hi
  · exact lives_ok
  · exact hx_con hi (con_of_run okQ q2C0 q2G0)
  · exact hx_con hi (con_of_run okQ q2C1 q2G1)
  · exact con_of_run okQ q2C17 q2G17
  · exact con_of_run okQ q2C18 q2G18
  · exact con_of_run okQ q2C19 q2G19
  · exact con_of_run okQ q2C20 q2G20
  · exact con_of_run okQ q2C21 q2G21
  · exact con_of_run okQ q2C22 q2G22
  · exact con_of_run okQ q2C23 q2G23
  · exact ints_con hS x a u hn
theorem ok_m2x4 {S : Sl} (hS : SlOK S) (x a : Int) (u : World) (hn : S.pick 0 6 = Int.ofNat 2) (ha : inI64 a) (hi : aroundI a 9 = 4) : @FnOK (valX (rhoI S x a) S.xs u) Tryz.prog (envX (conT m2x4) (symT sgSame)) := by
  letI V := valX (rhoI S x a) S.xs u
  refine okX (fun f args v hcon => ?_) sgSame_ok
  refine conT_ok hcon (Q := ConOK) ?_
  intro z hz
  simp only [m2x4, List.mem_cons, List.not_mem_nil, or_false] at hz
  rcases hz with rfl | rfl | rfl | rfl | rfl | rfl | rfl | rfl | rfl
  · exact ar_con hS x a u ha hi
  · exact lives_ok
  · exact hx_con hi (con_of_run okQ q2C0 q2G0)
  · exact hx_con hi (con_of_run okQ q2C1 q2G1)
  · exact con_of_run okQ q2C24 q2G24
  · exact con_of_run okQ q2C25 q2G25
  · exact con_of_run okQ q2C26 q2G26
  · exact con_of_run okQ q2C27 q2G27
  · exact ints_con hS x a u hn
theorem ok_m2x5 {S : Sl} (hS : SlOK S) (x a : Int) (u : World) (hn : S.pick 0 6 = Int.ofNat 2) (ha : inI64 a) (hi : aroundI a 9 = 5) : @FnOK (valX (rhoI S x a) S.xs u) Tryz.prog (envX (conT m2x5) (symT sgSame)) := by
  letI V := valX (rhoI S x a) S.xs u
  refine okX (fun f args v hcon => ?_) sgSame_ok
  refine conT_ok hcon (Q := ConOK) ?_
  intro z hz
  simp only [m2x5, List.mem_cons, List.not_mem_nil, or_false] at hz
  rcases hz with rfl | rfl | rfl | rfl | rfl | rfl | rfl | rfl | rfl
  · exact ar_con hS x a u ha hi
  · exact lives_ok
  · exact hx_con hi (con_of_run okQ q2C0 q2G0)
  · exact hx_con hi (con_of_run okQ q2C1 q2G1)
  · exact con_of_run okQ q2C28 q2G28
  · exact con_of_run okQ q2C29 q2G29
  · exact con_of_run okQ q2C30 q2G30
  · exact con_of_run okQ q2C31 q2G31
  · exact ints_con hS x a u hn
theorem ok_m2x6 {S : Sl} (hS : SlOK S) (x a : Int) (u : World) (hn : S.pick 0 6 = Int.ofNat 2) (ha : inI64 a) (hi : aroundI a 9 = 6) : @FnOK (valX (rhoI S x a) S.xs u) Tryz.prog (envX (conT m2x6) (symT sgSame)) := by
  letI V := valX (rhoI S x a) S.xs u
  refine okX (fun f args v hcon => ?_) sgSame_ok
  refine conT_ok hcon (Q := ConOK) ?_
  intro z hz
  simp only [m2x6, List.mem_cons, List.not_mem_nil, or_false] at hz
  rcases hz with rfl | rfl | rfl | rfl | rfl | rfl | rfl | rfl | rfl
  · exact ar_con hS x a u ha hi
  · exact lives_ok
  · exact hx_con hi (con_of_run okQ q2C0 q2G0)
  · exact hx_con hi (con_of_run okQ q2C1 q2G1)
  · exact con_of_run okQ q2C32 q2G32
  · exact con_of_run okQ q2C33 q2G33
  · exact con_of_run okQ q2C34 q2G34
  · exact con_of_run okQ q2C35 q2G35
  · exact ints_con hS x a u hn
theorem ok_m2x7 {S : Sl} (hS : SlOK S) (x a : Int) (u : World) (hn : S.pick 0 6 = Int.ofNat 2) (ha : inI64 a) (hi : aroundI a 9 = 7) : @FnOK (valX (rhoI S x a) S.xs u) Tryz.prog (envX (conT m2x7) (symT sgSame)) := by
  letI V := valX (rhoI S x a) S.xs u
  refine okX (fun f args v hcon => ?_) sgSame_ok
  refine conT_ok hcon (Q := ConOK) ?_
  intro z hz
  simp only [m2x7, List.mem_cons, List.not_mem_nil, or_false] at hz
  rcases hz with rfl | rfl | rfl | rfl | rfl | rfl | rfl | rfl | rfl
  · exact ar_con hS x a u ha hi
  · exact lives_ok
  · exact hx_con hi (con_of_run okQ q2C0 q2G0)
  · exact hx_con hi (con_of_run okQ q2C1 q2G1)
  · exact con_of_run okQ q2C36 q2G36
  · exact con_of_run okQ q2C37 q2G37
  · exact con_of_run okQ q2C38 q2G38
  · exact con_of_run okQ q2C39 q2G39
  · exact ints_con hS x a u hn
theorem ok_m2x8 {S : Sl} (hS : SlOK S) (x a : Int) (u : World) (hn : S.pick 0 6 = Int.ofNat 2) (ha : inI64 a) (hi : aroundI a 9 = 8) : @FnOK (valX (rhoI S x a) S.xs u) Tryz.prog (envX (conT m2x8) (symT sgSame)) := by
  letI V := valX (rhoI S x a) S.xs u
  refine okX (fun f args v hcon => ?_) sgSame_ok
  refine conT_ok hcon (Q := ConOK) ?_
  intro z hz
  simp only [m2x8, List.mem_cons, List.not_mem_nil, or_false] at hz
  rcases hz with rfl | rfl | rfl | rfl | rfl | rfl | rfl | rfl | rfl
  · exact ar_con hS x a u ha hi
  · exact lives_ok
  · exact hx_con hi (con_of_run okQ q2C0 q2G0)
  · exact hx_con hi (con_of_run okQ q2C1 q2G1)
  · exact con_of_run okQ q2C40 q2G40
  · exact con_of_run okQ q2C41 q2G41
  · exact con_of_run okQ q2C42 q2G42
  · exact con_of_run okQ q2C43 q2G43
  · exact ints_con hS x a u hn
theorem ok_m3x0 {S : Sl} (hS : SlOK S) (x a : Int) (u : World) (hn : S.pick 0 6 = Int.ofNat 3) (ha : inI64 a) (hi : aroundI a 9 = 0) : @FnOK (valX (rhoI S x a) S.xs u) Tryz.prog (envX (conT m3x0) (symT sgSame)) := by
  letI V := valX (rhoI S x a) S.xs u
  refine okX (fun f args v hcon => ?_) sgSame_ok
  refine conT_ok hcon (Q := ConOK) ?_
  intro z hz
  simp only [m3x0, List.mem_cons, List.not_mem_nil, or_false] at hz
  rcases hz with rfl | rfl | rfl | rfl | rfl | rfl | rfl | rfl | rfl
  · exact ar_con hS x a u ha hi
  · exact lives_ok
  · exact hx_con hi (con_of_run okQ q3C0 q3G0)
  · exact hx_con hi (con_of_run okQ q3C1 q3G1)
  · exact con_of_run okQ q3C2 q3G2
  · exact con_of_run okQ q3C3 q3G3
  · exact con_of_run okQ q3C4 q3G4
  · exact con_of_run okQ q3C5 q3G5
  · exact ints_con hS x a u hn
theorem ok_m3x1 {S : Sl} (hS : SlOK S) (x a : Int) (u : World) (hn : S.pick 0 6 = Int.ofNat 3) (ha : inI64 a) (hi : aroundI a 9 = 1) : @FnOK (valX (rhoI S x a) S.xs u) Tryz.prog (envX (conT m3x1) (symT sgSame)) := by
  letI V := valX (rhoI S x a) S.xs u
  refine okX (fun f args v hcon => ?_) sgSame_ok
  refine conT_ok hcon (Q := ConOK) ?_
  intro z hz
  simp only [m3x1, List.mem_cons, List.not_mem_nil, or_false] at hz
  rcases hz with rfl | rfl | rfl | rfl | rfl | rfl | rfl | rfl | rfl
  · exact ar_con hS x a u ha hi
  · exact lives_ok
  · exact hx_con hi (con_of_run okQ q3C0 q3G0)
  · exact hx_con hi (con_of_run okQ q3C1 q3G1)
  · exact con_of_run okQ q3C6 q3G6
  · exact con_of_run okQ q3C7 q3G7
  · exact con_of_run okQ q3C8 q3G8
  · exact con_of_run okQ q3C9 q3G9
  · exact ints_con hS x a u hn
theorem ok_m3x2 {S : Sl} (hS : SlOK S) (x a : Int) (u : World) (hn : S.pick 0 6 = Int.ofNat 3) (ha : inI64 a) (hi : aroundI a 9 = 2) : @FnOK (valX (rhoI S x a) S.xs u) Tryz.prog (envX (conT m3x2) (symT sgSame)) := by
  letI V := valX (rhoI S x a) S.xs u
  refine okX (fun f args v hcon => ?_) sgSame_ok
  refine conT_ok hcon (Q := ConOK) ?_
  intro z hz
  simp only [m3x2, List.mem_cons, List.not_mem_nil, or_false] at hz
  rcases hz with rfl | rfl | rfl | rfl | rfl | rfl | rfl | rfl | rfl | rfl | rfl | rfl | rfl
  · exact ar_con hS x a u ha hi
  · exact lives_ok
  · exact hx_con hi (con_of_run okQ q3C0 q3G0)
  · exact hx_con hi (con_of_run okQ q3C1 q3G1)
  · exact con_of_run okQ q3C10 q3G10
  · exact con_of_run okQ q3C11 q3G11
  · exact con_of_run okQ q3C12 q3G12
  · exact con_of_run okQ q3C13 q3G13
  · exact con_of_run okQ q3C14 q3G14
  · exact con_of_run okQ q3C15 q3G15
  · exact con_of_run okQ q3C16 q3G16
  · exact con_of_run okQ q3C17 q3G17
  · exact ints_con hS x a u hn
theorem ok_m3x3 {S : Sl} (hS : SlOK S) (x a : Int) (u : World) (hn : S.pick 0 6 = Int.ofNat 3) (ha : inI64 a) (hi : aroundI a 9 = 3) : @FnOK (valX (rhoI S x a) S.xs u) Tryz.prog (envX (conT m3x3) (symT sgSame)) := by
  letI V := valX (rhoI S x a) S.xs u
  refine okX (fun f args v hcon => ?_) sgSame_ok
  refine conT_ok hcon (Q := ConOK) ?_
  intro z hz
  simp only [m3x3, List.mem_cons, List.not_mem_nil, or_false] at hz
  rcases hz with rfl | rfl | rfl | rfl | rfl | rfl | rfl | rfl | rfl | rfl | rfl | rfl | rfl
  · exact ar_con hS x a u ha hi
  · exact lives_ok
  · exact hx_con hi (con_of_run okQ q3C0 q3G0)
  · exact hx_con hi (con_of_run okQ q3C1 q3G1)
  · exact con_of_run okQ q3C18 q3G18
  · exact con_of_run okQ q3C19 q3G19
  · exact con_of_run okQ q3C20 q3G20
  · exact con_of_run okQ q3C21 q3G21
  · exact con_of_run okQ q3C22 q3G22
  · exact con_of_run okQ q3C23 q3G23
  · exact con_of_run okQ q3C24 q3G24
  · exact con_of_run okQ q3C25 q3G25
  · exact ints_con hS x a u hn
theorem ok_m3x4 {S : Sl} (hS : SlOK S) (x a : Int) (u : World) (hn : S.pick 0 6 = Int.ofNat 3) (ha : inI64 a) (hi : aroundI a 9 = 4) : @FnOK (valX (rhoI S x a) S.xs u) Tryz.prog (envX (conT m3x4) (symT sgSame)) := by
  letI V := valX (rhoI S x a) S.xs u
  refine okX (fun f args v hcon => ?_) sgSame_ok
  refine conT_ok hcon (Q := ConOK) ?_
  intro z hz
  simp only [m3x4, List.mem_cons, List.not_mem_nil, or_false] at hz
  rcases hz with rfl | rfl | rfl | rfl | rfl | rfl | rfl | rfl | rfl | rfl | rfl | rfl | rfl
  · exact ar_con hS x a u ha hi
  · exact lives_ok
  · exact hx_con hi (con_of_run okQ q3C0 q3G0)
  · exact hx_con hi (con_of_run okQ q3C1 q3G1)
  · exact con_of_run okQ q3C26 q3G26
  · exact con_of_run okQ q3C27 q3G27
  · exact con_of_run okQ q3C28 q3G28
  · exact con_of_run okQ q3C29 q3G29
  · exact con_of_run okQ q3C30 q3G30
  · exact con_of_run okQ q3C31 q3G31
  · exact con_of_run okQ q3C32 q3G32
  · exact con_of_run okQ q3C33 q3G33
  · exact ints_con hS x a u hn
theorem ok_m3x5 {S : Sl} (hS : SlOK S) (x a : Int) (u : World) (hn : S.pick 0 6 = Int.ofNat 3) (ha : inI64 a) (hi : aroundI a 9 = 5) : @FnOK (valX (rhoI S x a) S.xs u) Tryz.prog (envX (conT m3x5) (symT sgSame)) := by
  letI V := valX (rhoI S x a) S.xs u
  refine okX (fun f args v hcon => ?_) sgSame_ok
  refine conT_ok hcon (Q := ConOK) ?_
  intro z hz
  simp only [m3x5, List.mem_cons, List.not_mem_nil, or_false] at hz
  rcases hz with rfl | rfl | rfl | rfl | rfl | rfl | rfl | rfl | rfl
  · exact ar_con hS x a u ha hi
  · exact lives_ok
  · exact hx_con hi (con_of_run okQ q3C0 q3G0)
  · exact hx_con hi (con_of_run okQ q3C1 q3G1)
  · exact con_of_run okQ q3C34 q3G34
  · exact con_of_run okQ q3C35 q3G35
  · exact con_of_run okQ q3C36 q3G36
  · exact con_of_run okQ q3C37 q3G37
  · exact ints_con hS x a u hn
theorem ok_m3x6 {S : Sl} (hS : SlOK S) (x a : Int) (u : World) (hn : S.pick 0 6 = Int.ofNat 3) (ha : inI64 a) (hi : aroundI a 9 = 6) : @FnOK (valX (rhoI S x a) S.xs u) Tryz.prog (envX (conT m3x6) (symT sgSame)) := by
  letI V := valX (rhoI S x a) S.xs u
  refine okX (fun f args v hcon => ?_) sgSame_ok
  refine conT_ok hcon (Q := ConOK) ?_
  intro z hz
  simp only [m3x6, List.mem_cons, List.not_mem_nil, or_false] at hz
  rcases hz with rfl | rfl | rfl | rfl | rfl | rfl | rfl | rfl | rfl
  · exact ar_con hS x a u ha hi
  · exact lives_ok
  · exact hx_con hi (con_of_run okQ q3C0 q3G0)
  · exact hx_con hi (con_of_run okQ q3C1 q3G1)
  · exact con_of_run okQ q3C38 q3G38
  · exact con_of_run okQ q3C39 q3G39
  · exact con_of_run okQ q3C40 q3G40
  · exact con_of_run okQ q3C41 q3G41
  · exact ints_con hS x a u hn
theorem ok_m3x7 {S : Sl} (hS : SlOK S) (x a : Int) (u : World) (hn : S.pick 0 6 = Int.ofNat 3) (ha : inI64 a) (hi : aroundI a 9 = 7) : @FnOK (valX (rhoI S x a) S.xs u) Tryz.prog (envX (conT m3x7) (symT sgSame)) := by
  letI V := valX (rhoI S x a) S.xs u
  refine okX (fun f args v hcon => ?_) sgSame_ok
  refine conT_ok hcon (Q := ConOK) ?_
  intro z hz
  simp only [m3x7, List.mem_cons, List.not_mem_nil, or_false] at hz
  rcases hz with rfl | rfl | rfl | rfl | rfl | rfl | rfl | rfl | rfl
  · exact ar_con hS x a u ha hi
  · exact lives_ok
  · exact hx_con hi (con_of_run okQ q3C0 q3G0)
  · exact hx_con hi (con_of_run okQ q3C1 q3G1)
  · exact con_of_run okQ q3C42 q3G42
  · exact con_of_run okQ q3C43 q3G43
  · exact con_of_run okQ q3C44 q3G44
  · exact con_of_run okQ q3C45 q3G45
  · exact ints_con hS x a u hn
theorem ok_m3x8 {S : Sl} (hS : SlOK S) (x a : Int) (u : World) (hn : S.pick 0 6 = Int.ofNat 3) (ha : inI64 a) (hi : aroundI a 9 = 8) : @FnOK (valX (rhoI S x a) S.xs u) Tryz.prog (envX (conT m3x8) (symT sgSame)) := by
  letI V := valX (rhoI S x a) S.xs u
  refine okX (fun f args v hcon => ?_) sgSame_ok
  refine conT_ok hcon (Q := ConOK) ?_
  intro z hz
  simp only [m3x8, List.mem_cons, List.not_mem_nil, or_false] at hz
  rcases hz with rfl | rfl | rfl | rfl | rfl | rfl | rfl | rfl | rfl
  · exact ar_con hS x a u ha hi
  · exact lives_ok
  · exact hx_con hi (con_of_run okQ q3C0 q3G0)
  · exact hx_con hi (con_of_run okQ q3C1 q3G1)
  · exact con_of_run okQ q3C46 q3G46
  · exact con_of_run okQ q3C47 q3G47
  · exact con_of_run okQ q3C48 q3G48
  · exact con_of_run okQ q3C49 q3G49
  · exact ints_con hS x a u hn
theorem ok_m4x0 {S : Sl} (hS : SlOK S) (x a : Int) (u : World) (hn : S.pick 0 6 = Int.ofNat 4) (ha : inI64 a) (hi : aroundI a 9 = 0) : @FnOK (valX (rhoI S x a) S.xs u) Tryz.prog (envX (conT m4x0) (symT sgSame)) := by
  letI V := valX (rhoI S x a) S.xs u
  refine okX (fun f args v hcon => ?_) sgSame_ok
  refine conT_ok hcon (Q := ConOK) ?_
  intro z hz
  simp only [m4x0, List.mem_cons, List.not_mem_nil, or_false] at hz
  rcases hz with rfl | rfl | rfl | rfl | rfl | rfl | rfl | rfl | rfl
  · exact ar_con hS x a u ha hi
  · exact lives_ok
  · exact hx_con hi (con_of_run okQ q4C0 q4G0)
  · exact hx_con hi (con_of_run okQ q4C1 q4G1)
  · exact con_of_run okQ q4C2 q4G2
  · exact con_of_run okQ q4C3 q4G3
  · exact con_of_run okQ q4C4 q4G4
  · exact con_of_run okQ q4C5 q4G5
  · exact ints_con hS x a u hn
theorem ok_m4x1 {S : Sl} (hS : SlOK S) (x a : Int) (u : World) (hn : S.pick 0 6 = Int.ofNat 4) (ha : inI64 a) (hi : aroundI a 9 = 1) : @FnOK (valX (rhoI S x a) S.xs u) Tryz.prog (envX (conT m4x1) (symT sgSame)) := by
  letI V := valX (rhoI S x a) S.xs u
  refine okX (fun f args v hcon => ?_) sgSame_ok
  refine conT_ok hcon (Q := ConOK) ?_
  intro z hz
  simp only [m4x1, List.mem_cons, List.not_mem_nil, or_false] at hz
  rcases hz with rfl | rfl | rfl | rfl | rfl | rfl | rfl | rfl | rfl
  · exact ar_con hS x a u ha hi
  · exact lives_ok
  · exact hx_con hi (con_of_run okQ q4C0 q4G0)
  · exact hx_con hi (con_of_run okQ q4C1 q4G1)
  · exact con_of_run okQ q4C6 q4G6
  · exact con_of_run okQ q4C7 q4G7
  · exact con_of_run okQ q4C8 q4G8
  · exact con_of_run okQ q4C9 q4G9
  · exact ints_con hS x a u hn
theorem ok_m4x2 {S : Sl} (hS : SlOK S) (x a : Int) (u : World) (hn : S.pick 0 6 = Int.ofNat 4) (ha : inI64 a) (hi : aroundI a 9 = 2) : @FnOK (valX (rhoI S x a) S.xs u) Tryz.prog (envX (conT m4x2) (symT sgSame)) := by
  letI V := valX (rhoI S x a) S.xs u
  refine okX (fun f args v hcon => ?_) sgSame_ok
  refine conT_ok hcon (Q := ConOK) ?_
  intro z hz
  simp only [m4x2, List.mem_cons, List.not_mem_nil, or_false] at hz
  rcases hz with rfl | rfl | rfl | rfl | rfl | rfl | rfl | rfl | rfl | rfl | rfl | rfl | rfl | rfl
  · exact ar_con hS x a u ha hi
  · exact lives_ok
  · exact hx_con hi (con_of_run okQ q4C0 q4G0)
  · exact hx_con hi (con_of_run okQ q4C1 q4G1)
  · exact con_of_run okQ q4C10 q4G10
  · exact con_of_run okQ q4C11 q4G11
  · exact con_of_run okQ q4C12 q4G12
  · exact con_of_run okQ q4C13 q4G13
  · exact con_of_run okQ q4C14 q4G14
  · exact con_of_run okQ q4C15 q4G15
  · exact con_of_run okQ q4C16 q4G16
  · exact con_of_run okQ q4C17 q4G17
  · exact con_of_run okQ q4C18 q4G18
  · exact ints_con hS x a u hn
theorem ok_m4x3 {S : Sl} (hS : SlOK S) (x a : Int) (u : World) (hn : S.pick 0 6 = Int.ofNat 4) (ha : inI64 a) (hi : aroundI a 9 = 3) : @FnOK (valX (rhoI S x a) S.xs u) Tryz.prog (envX (conT m4x3) (symT sgSame)) := by
  letI V := valX (rhoI S x a) S.xs u
  refine okX (fun f args v hcon => ?_) sgSame_ok
  refine conT_ok hcon (Q := ConOK) ?_
  intro z hz
  simp only [m4x3, List.mem_cons, List.not_mem_nil, or_false] at hz
  rcases hz with rfl | rfl | rfl | rfl | rfl | rfl | rfl | rfl | rfl | rfl | rfl | rfl | rfl | rfl
  · exact ar_con hS x a u ha hi
  · exact lives_ok
  · exact hx_con hi (con_of_run okQ q4C0 q4G0)
  · exact hx_con hi (con_of_run okQ q4C1 q4G1)
  · exact con_of_run okQ q4C19 q4G19
  · exact con_of_run okQ q4C20 q4G20
  · exact con_of_run okQ q4C21 q4G21
  · exact con_of_run okQ q4C22 q4G22
  · exact con_of_run okQ q4C23 q4G23
  · exact con_of_run okQ q4C24 q4G24
  · exact con_of_run okQ q4C25 q4G25
  · exact con_of_run okQ q4C26 q4G26
  · exact con_of_run okQ q4C27 q4G27
  · exact ints_con hS x a u hn
theorem ok_m4x4 {S : Sl} (hS : SlOK S) (x a : Int) (u : World) (hn : S.pick 0 6 = Int.ofNat 4) (ha : inI64 a) (hi : aroundI a 9 = 4) : @FnOK (valX (rhoI S x a) S.xs u) Tryz.prog (envX (conT m4x4) (symT sgSame)) := by
  letI V := valX (rhoI S x a) S.xs u
  refine okX (fun f args v hcon => ?_) sgSame_ok
  refine conT_ok hcon (Q := ConOK) ?_
  intro z hz
  simp only [m4x4, List.mem_cons, List.not_mem_nil, or_false] at hz
  rcases hz with rfl | rfl | rfl | rfl | rfl | rfl | rfl | rfl | rfl | rfl | rfl | rfl | rfl | rfl
  · exact ar_con hS x a u ha hi
  · exact lives_ok
  · exact hx_con hi (con_of_run okQ q4C0 q4G0)
  · exact hx_con hi (con_of_run okQ q4C1 q4G1)
  · exact con_of_run okQ q4C28 q4G28
  · exact con_of_run okQ q4C29 q4G29
  · exact con_of_run okQ q4C30 q4G30
  · exact con_of_run okQ q4C31 q4G31
  · exact con_of_run okQ q4C32 q4G32
  · exact con_of_run okQ q4C33 q4G33
  · exact con_of_run okQ q4C34 q4G34
  · exact con_of_run okQ q4C35 q4G35
  · exact con_of_run okQ q4C36 q4G36
  · exact ints_con hS x a u hn
theorem ok_m4x5 {S : Sl} (hS : SlOK S) (x a : Int) (u : World) (hn : S.pick 0 6 = Int.ofNat 4) (ha : inI64 a) (hi : aroundI a 9 = 5) : @FnOK (valX (rhoI S x a) S.xs u) Tryz.prog (envX (conT m4x5) (symT sgSame)) := by
  letI V := valX (rhoI S x a) S.xs u
  refine okX (fun f args v hcon => ?_) sgSame_ok
  refine conT_ok hcon (Q := ConOK) ?_
  intro z hz
  simp only [m4x5, List.mem_cons, List.not_mem_nil, or_false] at hz
  rcases hz with rfl | rfl | rfl | rfl | rfl | rfl | rfl | rfl | rfl | rfl | rfl | rfl | rfl | rfl
  · exact ar_con hS x a u ha hi
  · exact lives_ok
  · exact hx_con hi (con_of_run okQ q4C0 q4G0)
  · exact hx_con hi (con_of_run okQ q4C1 q4G1)
  · exact con_of_run okQ q4C37 q4G37
  · exact con_of_run okQ q4C38 q4G38
  · exact con_of_run okQ q4C39 q4G39
  · exact con_of_run okQ q4C40 q4G40
  · exact con_of_run okQ q4C41 q4G41
  · exact con_of_run okQ q4C42 q4G42
  · exact con_of_run okQ q4C43 q4G43
  · exact con_of_run okQ q4C44 q4G44
  · exact con_of_run okQ q4C45 q4G45
  · exact ints_con hS x a u hn
theorem ok_m4x6 {S : Sl} (hS : SlOK S) (x a : Int) (u : World) (hn : S.pick 0 6 = Int.ofNat 4) (ha : inI64 a) (hi : aroundI a 9 = 6) : @FnOK (valX (rhoI S x a) S.xs u) Tryz.prog (envX (conT m4x6) (symT sgSame)) := by
  letI V := valX (rhoI S x a) S.xs u
  refine okX (fun f args v hcon => ?_) sgSame_ok
  refine conT_ok hcon (Q := ConOK) ?_
  intro z hz
  simp only [m4x6, List.mem_cons, List.not_mem_nil, or_false] at hz
  rcases hz with rfl | rfl | rfl | rfl | rfl | rfl | rfl | rfl | rfl
  · exact ar_con hS x a u ha hi
  · exact lives_ok
  · exact hx_con hi (con_of_run okQ q4C0 q4G0)
  · exact hx_con hi (con_of_run okQ q4C1 q4G1)
  · exact con_of_run okQ q4C46 q4G46
  · exact con_of_run okQ q4C47 q4G47
  · exact con_of_run okQ q4C48 q4G48
  · exact con_of_run okQ q4C49 q4G49
  · exact ints_con hS x a u hn
theorem ok_m4x7 {S : Sl} (hS : SlOK S) (x a : Int) (u : World) (hn : S.pick 0 6 = Int.ofNat 4) (ha : inI64 a) (hi : aroundI a 9 = 7) : @FnOK (valX (rhoI S x a) S.xs u) Tryz.prog (envX (conT m4x7) (symT sgSame)) := by
  letI V := valX (rhoI S x a) S.xs u
  refine okX (fun f args v hcon => ?_) sgSame_ok
  refine conT_ok hcon (Q := ConOK) ?_
  intro z hz
  simp only [m4x7, List.mem_cons, List.not_mem_nil, or_false] at hz
  rcases hz with rfl | rfl | rfl | rfl | rfl | rfl | rfl | rfl | rfl
  · exact ar_con hS x a u ha hi
  · exact lives_ok
  · exact hx_con hi (con_of_run okQ q4C0 q4G0)
  · exact hx_con hi (con_of_run okQ q4C1 q4G1)
  · exact con_of_run okQ q4C50 q4G50
  · exact con_of_run okQ q4C51 q4G51
  · exact con_of_run okQ q4C52 q4G52
  · exact con_of_run okQ q4C53 q4G53
  · exact ints_con hS x a u hn
theorem ok_m4x8 {S : Sl} (hS : SlOK S) (x a : Int) (u : World) (hn : S.pick 0 6 = Int.ofNat 4) (ha : inI64 a) (hi : aroundI a 9 = 8) : @FnOK (valX (rhoI S x a) S.xs u) Tryz.prog (envX (conT m4x8) (symT sgSame)) := by
  letI V := valX (rhoI S x a) S.xs u
  refine okX (fun f args v hcon => ?_) sgSame_ok
  refine conT_ok hcon (Q := ConOK) ?_
  intro z hz
  simp only [m4x8, List.mem_cons, List.not_mem_nil, or_false] at hz
  rcases hz with rfl | rfl | rfl | rfl | rfl | rfl | rfl | rfl | rfl
  · exact ar_con hS x a u ha hi
  · exact lives_ok
  · exact hx_con hi (con_of_run okQ q4C0 q4G0)
  · exact hx_con hi (con_of_run okQ q4C1 q4G1)
  · exact con_of_run okQ q4C54 q4G54
  · exact con_of_run okQ q4C55 q4G55
  · exact con_of_run okQ q4C56 q4G56
  · exact con_of_run okQ q4C57 q4G57
  · exact ints_con hS x a u hn
theorem ok_m5x0 {S : Sl} (hS : SlOK S) (x a : Int) (u : World) (hn : S.pick 0 6 = Int.ofNat 5) (ha : inI64 a) (hi : aroundI a 9 = 0) : @FnOK (valX (rhoI S x a) S.xs u) Tryz.prog (envX (conT m5x0) (symT sgSame)) := by
  letI V := valX (rhoI S x a) S.xs u
  refine okX (fun f args v hcon => ?_) sgSame_ok
  refine conT_ok hcon (Q := ConOK) ?_
  intro z hz
  simp only [m5x0, List.mem_cons, List.not_mem_nil, or_false] at hz
  rcases hz with rfl | rfl | rfl | rfl | rfl | rfl | rfl | rfl | rfl
  · exact ar_con hS x a u ha hi
  · exact lives_ok
  · exact hx_con hi (con_of_run okQ q5C0 q5G0)
  · exact hx_con hi (con_of_run okQ q5C1 q5G1)
  · exact con_of_run okQ q5C2 q5G2
  · exact con_of_run okQ q5C3 q5G3
  · exact con_of_run okQ q5C4 q5G4
  · exact con_of_run okQ q5C5 q5G5
  · exact ints_con hS x a u hn
theorem ok_m5x1 {S : Sl} (hS : SlOK S) (x a : Int) (u : World) (hn : S.pick 0 6 = Int.ofNat 5) (ha : inI64 a) (hi : aroundI a 9 = 1) : @FnOK (valX (rhoI S x a) S.xs u) Tryz.prog (envX (conT m5x1) (symT sgSame)) := by
  letI V := valX (rhoI S x a) S.xs u
  refine okX (fun f args v hcon => ?_) sgSame_ok
  refine conT_ok hcon (Q := ConOK) ?_
  intro z hz
  simp only [m5x1, List.mem_cons, List.not_mem_nil, or_false] at hz
  rcases hz with rfl | rfl | rfl | rfl | rfl | rfl | rfl | rfl | rfl
  · exact ar_con hS x a u ha hi
  · exact lives_ok
  · exact hx_con hi (con_of_run okQ q5C0 q5G0)
  · exact hx_con hi (con_of_run okQ q5C1 q5G1)
  · exact con_of_run okQ q5C6 q5G6
  · exact con_of_run okQ q5C7 q5G7
  · exact con_of_run okQ q5C8 q5G8
  · exact con_of_run okQ q5C9 q5G9
  · exact ints_con hS x a u hn
theorem ok_m5x2 {S : Sl} (hS : SlOK S) (x a : Int) (u : World) (hn : S.pick 0 6 = Int.ofNat 5) (ha : inI64 a) (hi : aroundI a 9 = 2) : @FnOK (valX (rhoI S x a) S.xs u) Tryz.prog (envX (conT m5x2) (symT sgSame)) := by
  letI V := valX (rhoI S x a) S.xs u
  refine okX (fun f args v hcon => ?_) sgSame_ok
  refine conT_ok hcon (Q := ConOK) ?_
  intro z hz
  simp only [m5x2, List.mem_cons, List.not_mem_nil, or_false] at hz
  rcases hz with rfl | rfl | rfl | rfl | rfl | rfl | rfl | rfl | rfl | rfl | rfl | rfl | rfl | rfl | rfl
  · exact ar_con hS x a u ha hi
  · exact lives_ok
  · exact hx_con hi (con_of_run okQ q5C0 q5G0)
  · exact hx_con hi (con_of_run okQ q5C1 q5G1)
  · exact con_of_run okQ q5C10 q5G10
  · exact con_of_run okQ q5C11 q5G11
  · exact con_of_run okQ q5C12 q5G12
  · exact con_of_run okQ q5C13 q5G13
  · exact con_of_run okQ q5C14 q5G14
  · exact con_of_run okQ q5C15 q5G15
  · exact con_of_run okQ q5C16 q5G16
  · exact con_of_run okQ q5C17 q5G17
  · exact con_of_run okQ q5C18 q5G18
  · exact con_of_run okQ q5C19 q5G19
  · exact ints_con hS x a u hn
theorem ok_m5x3 {S : Sl} (hS : SlOK S) (x a : Int) (u : World) (hn : S.pick 0 6 = Int.ofNat 5) (ha : inI64 a) (hi : aroundI a 9 = 3) : @FnOK (valX (rhoI S x a) S.xs u) Tryz.prog (envX (conT m5x3) (symT sgSame)) := by
  letI V := valX (rhoI S x a) S.xs u
  refine okX (fun f args v hcon => ?_) sgSame_ok
  refine conT_ok hcon (Q := ConOK) ?_
  intro z hz
  simp only [m5x3, List.mem_cons, List.not_mem_nil, or_false] at hz
  rcases hz with rfl | rfl | rfl | rfl | rfl | rfl | rfl | rfl | rfl | rfl | rfl | rfl | rfl | rfl | rfl
  · exact ar_con hS x a u ha hi
  · exact lives_ok
  · exact hx_con hi (con_of_run okQ q5C0 q5G0)
  · exact hx_con hi (con_of_run okQ q5C1 q5G1)
  · exact con_of_run okQ q5C20 q5G20
  · exact con_of_run okQ q5C21 q5G21
  · exact con_of_run okQ q5C22 q5G22
  · exact con_of_run okQ q5C23 q5G23
  · exact con_of_run okQ q5C24 q5G24
  · exact con_of_run okQ q5C25 q5G25
  · exact con_of_run okQ q5C26 q5G26
  · exact con_of_run okQ q5C27 q5G27
  · exact con_of_run okQ q5C28 q5G28
  · exact con_of_run okQ q5C29 q5G29
  · exact ints_con hS x a u hn
theorem ok_m5x4 {S : Sl} (hS : SlOK S) (x a : Int) (u : World) (hn : S.pick 0 6 = Int.ofNat 5) (ha : inI64 a) (hi : aroundI a 9 = 4) : @FnOK (valX (rhoI S x a) S.xs u) Tryz.prog (envX (conT m5x4) (symT sgSame)) := by
  letI V := valX (rhoI S x a) S.xs u
  refine okX (fun f args v hcon => ?_) sgSame_ok
  refine conT_ok hcon (Q := ConOK) ?_
  intro z hz
  simp only [m5x4, List.mem_cons, List.not_mem_nil, or_false] at hz
  rcases hz with rfl | rfl | rfl | rfl | rfl | rfl | rfl | rfl | rfl | rfl | rfl | rfl | rfl | rfl | rfl
  · exact ar_con hS x a u ha hi
  · exact lives_ok
  · exact hx_con hi (con_of_run okQ q5C0 q5G0)
  · exact hx_con hi (con_of_run okQ q5C1 q5G1)
  · exact con_of_run okQ q5C30 q5G30
  · exact con_of_run okQ q5C31 q5G31
  · exact con_of_run okQ q5C32 q5G32
  · exact con_of_run okQ q5C33 q5G33
  · exact con_of_run okQ q5C34 q5G34
  · exact con_of_run okQ q5C35 q5G35
  · exact con_of_run okQ q5C36 q5G36
  · exact con_of_run okQ q5C37 q5G37
  · exact con_of_run okQ q5C38 q5G38
  · exact con_of_run okQ q5C39 q5G39
  · exact ints_con hS x a u hn
theorem ok_m5x5 {S : Sl} (hS : SlOK S) (x a : Int) (u : World) (hn : S.pick 0 6 = Int.ofNat 5) (ha : inI64 a) (hi : aroundI a 9 = 5) : @FnOK (valX (rhoI S x a) S.xs u) Tryz.prog (envX (conT m5x5) (symT sgSame)) := by
  letI V := valX (rhoI S x a) S.xs u
  refine okX (fun f args v hcon => ?_) sgSame_ok
  refine conT_ok hcon (Q := ConOK) ?_
  intro z hz
  simp only [m5x5, List.mem_cons, List.not_mem_nil, or_false] at hz
  rcases hz with rfl | rfl | rfl | rfl | rfl | rfl | rfl | rfl | rfl | rfl | rfl | rfl | rfl | rfl | rfl
  · exact ar_con hS x a u ha hi
  · exact lives_ok
  · exact hx_con hi (con_of_run okQ q5C0 q5G0)
  · exact hx_con hi (con_of_run okQ q5C1 q5G1)
  · exact con_of_run okQ q5C40 q5G40
  · exact con_of_run okQ q5C41 q5G41
  · exact con_of_run okQ q5C42 q5G42
  · exact con_of_run okQ q5C43 q5G43
  · exact con_of_run okQ q5C44 q5G44
  · exact con_of_run okQ q5C45 q5G45
  · exact con_of_run okQ q5C46 q5G46
  · exact con_of_run okQ q5C47 q5G47
  · exact con_of_run okQ q5C48 q5G48
  · exact con_of_run okQ q5C49 q5G49
  · exact ints_con hS x a u hn
theorem ok_m5x6 {S : Sl} (hS : SlOK S) (x a : Int) (u : World) (hn : S.pick 0 6 = Int.ofNat 5) (ha : inI64 a) (hi : aroundI a 9 = 6) : @FnOK (valX (rhoI S x a) S.xs u) Tryz.prog (envX (conT m5x6) (symT sgSame)) := by
  letI V := valX (rhoI S x a) S.xs u
  refine okX (fun f args v hcon => ?_) sgSame_ok
  refine conT_ok hcon (Q := ConOK) ?_
  intro z hz
  simp only [m5x6, List.mem_cons, List.not_mem_nil, or_false] at hz
  rcases hz with rfl | rfl | rfl | rfl | rfl | rfl | rfl | rfl | rfl | rfl | rfl | rfl | rfl | rfl | rfl
  · exact ar_con hS x a u ha hi
  · exact lives_ok
  · exact hx_con hi (con_of_run okQ q5C0 q5G0)
  · exact hx_con hi (con_of_run okQ q5C1 q5G1)
  · exact con_of_run okQ q5C50 q5G50
  · exact con_of_run okQ q5C51 q5G51
  · exact con_of_run okQ q5C52 q5G52
  · exact con_of_run okQ q5C53 q5G53
  · exact con_of_run okQ q5C54 q5G54
  · exact con_of_run okQ q5C55 q5G55
  · exact con_of_run okQ q5C56 q5G56
  · exact con_of_run okQ q5C57 q5G57
  · exact con_of_run okQ q5C58 q5G58
  · exact con_of_run okQ q5C59 q5G59
  · exact ints_con hS x a u hn
theorem ok_m5x7 {S : Sl} (hS : SlOK S) (x a : Int) (u : World) (hn : S.pick 0 6 = Int.ofNat 5) (ha : inI64 a) (hi : aroundI a 9 = 7) : @FnOK (valX (rhoI S x a) S.xs u) Tryz.prog (envX (conT m5x7) (symT sgSame)) := by
  letI V := valX (rhoI S x a) S.xs u
  refine okX (fun f args v hcon => ?_) sgSame_ok
  refine conT_ok hcon (Q := ConOK) ?_
  intro z hz
  simp only [m5x7, List.mem_cons, List.not_mem_nil, or_false] at hz
  rcases hz with rfl | rfl | rfl | rfl | rfl | rfl | rfl | rfl | rfl
  · exact ar_con hS x a u ha hi
  · exact lives_ok
  · exact hx_con hi (con_of_run okQ q5C0 q5G0)
  · exact hx_con hi (con_of_run okQ q5C1 q5G1)
  · exact con_of_run okQ q5C60 q5G60
  · exact con_of_run okQ q5C61 q5G61
  · exact con_of_run okQ q5C62 q5G62
  · exact con_of_run okQ q5C63 q5G63
  · exact ints_con hS x a u hn
theorem ok_m5x8 {S : Sl} (hS : SlOK S) (x a : Int) (u : World) (hn : S.pick 0 6 = Int.ofNat 5) (ha : inI64 a) (hi : aroundI a 9 = 8) : @FnOK (valX (rhoI S x a) S.xs u) Tryz.prog (envX (conT m5x8) (symT sgSame)) := by
  letI V := valX (rhoI S x a) S.xs u
  refine okX (fun f args v hcon => ?_) sgSame_ok
  refine conT_ok hcon (Q := ConOK) ?_
  intro z hz
  simp only [m5x8, List.mem_cons, List.not_mem_nil, or_false] at hz
  rcases hz with rfl | rfl | rfl | rfl | rfl | rfl | rfl | rfl | rfl
  · exact ar_con hS x a u ha hi
  · exact lives_ok
  · exact hx_con hi (con_of_run okQ q5C0 q5G0)
  · exact hx_con hi (con_of_run okQ q5C1 q5G1)
  · exact con_of_run okQ q5C64 q5G64
  · exact con_of_run okQ q5C65 q5G65
  · exact con_of_run okQ q5C66 q5G66
  · exact con_of_run okQ q5C67 q5G67
  · exact ints_con hS x a u hn
theorem lists_con {S : Sl} (hS : SlOK S) (x a : Int) (u : World) (ha : inI64 a) : @ConOK (valX (rhoI S x a) S.xs u) 3 [.ext 0, .sym .i64 1, .sym .i64 0] (.bool true) := by
  letI V := valX (rhoI S x a) S.xs u
  have h6 : 0 ≤ S.pick 0 6 ∧ S.pick 0 6 < 6 := by
    unfold Sl.pick
    split
    · exact aroundI_range (by omega)
    · omega
  have h9 := aroundI_range (a := a) (m := 9) (by omega)
  have c6 : S.pick 0 6 = Int.ofNat 0 ∨ S.pick 0 6 = Int.ofNat 1 ∨ S.pick 0 6 = Int.ofNat 2 ∨ S.pick 0 6 = Int.ofNat 3 ∨ S.pick 0 6 = Int.ofNat 4 ∨ S.pick 0 6 = Int.ofNat 5 := by
    simp only [Int.ofNat_eq_natCast]; omega
  have c9 : aroundI a 9 = 0 ∨ aroundI a 9 = 1 ∨ aroundI a 9 = 2 ∨ aroundI a 9 = 3 ∨ aroundI a 9 = 4 ∨ aroundI a 9 = 5 ∨ aroundI a 9 = 6 ∨ aroundI a 9 = 7 ∨ aroundI a 9 = 8 := by omega
  rcases c6 with hn | hn | hn | hn | hn | hn
  · rcases c9 with hi | hi | hi | hi | hi | hi | hi | hi | hi
    · exact con_of_run (ok_m0x0 hS x a u hn ha hi) rfl m0x0e
    · exact con_of_run (ok_m0x1 hS x a u hn ha hi) rfl m0x1e
    · exact con_of_run (ok_m0x2 hS x a u hn ha hi) rfl m0x2e
    · exact con_of_run (ok_m0x3 hS x a u hn ha hi) rfl m0x3e
    · exact con_of_run (ok_m0x4 hS x a u hn ha hi) rfl m0x4e
    · exact con_of_run (ok_m0x5 hS x a u hn ha hi) rfl m0x5e
    · exact con_of_run (ok_m0x6 hS x a u hn ha hi) rfl m0x6e
    · exact con_of_run (ok_m0x7 hS x a u hn ha hi) rfl m0x7e
    · exact con_of_run (ok_m0x8 hS x a u hn ha hi) rfl m0x8e
  · rcases c9 with hi | hi | hi | hi | hi | hi | hi | hi | hi
    · exact con_of_run (ok_m1x0 hS x a u hn ha hi) rfl m1x0e
    · exact con_of_run (ok_m1x1 hS x a u hn ha hi) rfl m1x1e
    · exact con_of_run (ok_m1x2 hS x a u hn ha hi) rfl m1x2e
    · exact con_of_run (ok_m1x3 hS x a u hn ha hi) rfl m1x3e
    · exact con_of_run (ok_m1x4 hS x a u hn ha hi) rfl m1x4e
    · exact con_of_run (ok_m1x5 hS x a u hn ha hi) rfl m1x5e
    · exact con_of_run (ok_m1x6 hS x a u hn ha hi) rfl m1x6e
    · exact con_of_run (ok_m1x7 hS x a u hn ha hi) rfl m1x7e
    · exact con_of_run (ok_m1x8 hS x a u hn ha hi) rfl m1x8e
  · rcases c9 with hi | hi | hi | hi | hi | hi | hi | hi | hi
    · exact con_of_run (ok_m2x0 hS x a u hn ha hi) rfl m2x0e
    · exact con_of_run (ok_m2x1 hS x a u hn ha hi) rfl m2x1e
    · exact con_of_run (ok_m2x2 hS x a u hn ha hi) rfl m2x2e
    · exact con_of_run (ok_m2x3 hS x a u hn ha hi) rfl m2x3e
    · exact con_of_run (ok_m2x4 hS x a u hn ha hi) rfl m2x4e
    · exact con_of_run (ok_m2x5 hS x a u hn ha hi) rfl m2x5e
    · exact con_of_run (ok_m2x6 hS x a u hn ha hi) rfl m2x6e
    · exact con_of_run (ok_m2x7 hS x a u hn ha hi) rfl m2x7e
    · exact con_of_run (ok_m2x8 hS x a u hn ha hi) rfl m2x8e
  · rcases c9 with hi | hi | hi | hi | hi | hi | hi | hi | hi
    · exact con_of_run (ok_m3x0 hS x a u hn ha hi) rfl m3x0e
    · exact con_of_run (ok_m3x1 hS x a u hn ha hi) rfl m3x1e
    · exact con_of_run (ok_m3x2 hS x a u hn ha hi) rfl m3x2e
    · exact con_of_run (ok_m3x3 hS x a u hn ha hi) rfl m3x3e
    · exact con_of_run (ok_m3x4 hS x a u hn ha hi) rfl m3x4e
    · exact con_of_run (ok_m3x5 hS x a u hn ha hi) rfl m3x5e
    · exact con_of_run (ok_m3x6 hS x a u hn ha hi) rfl m3x6e
    · exact con_of_run (ok_m3x7 hS x a u hn ha hi) rfl m3x7e
    · exact con_of_run (ok_m3x8 hS x a u hn ha hi) rfl m3x8e
  · rcases c9 with hi | hi | hi | hi | hi | hi | hi | hi | hi
    · exact con_of_run (ok_m4x0 hS x a u hn ha hi) rfl m4x0e
    · exact con_of_run (ok_m4x1 hS x a u hn ha hi) rfl m4x1e
    · exact con_of_run (ok_m4x2 hS x a u hn ha hi) rfl m4x2e
    · exact con_of_run (ok_m4x3 hS x a u hn ha hi) rfl m4x3e
    · exact con_of_run (ok_m4x4 hS x a u hn ha hi) rfl m4x4e
    · exact con_of_run (ok_m4x5 hS x a u hn ha hi) rfl m4x5e
    · exact con_of_run (ok_m4x6 hS x a u hn ha hi) rfl m4x6e
    · exact con_of_run (ok_m4x7 hS x a u hn ha hi) rfl m4x7e
    · exact con_of_run (ok_m4x8 hS x a u hn ha hi) rfl m4x8e
  · rcases c9 with hi | hi | hi | hi | hi | hi | hi | hi | hi
    · exact con_of_run (ok_m5x0 hS x a u hn ha hi) rfl m5x0e
    · exact con_of_run (ok_m5x1 hS x a u hn ha hi) rfl m5x1e
    · exact con_of_run (ok_m5x2 hS x a u hn ha hi) rfl m5x2e
    · exact con_of_run (ok_m5x3 hS x a u hn ha hi) rfl m5x3e
    · exact con_of_run (ok_m5x4 hS x a u hn ha hi) rfl m5x4e
    · exact con_of_run (ok_m5x5 hS x a u hn ha hi) rfl m5x5e
    · exact con_of_run (ok_m5x6 hS x a u hn ha hi) rfl m5x6e
    · exact con_of_run (ok_m5x7 hS x a u hn ha hi) rfl m5x7e
    · exact con_of_run (ok_m5x8 hS x a u hn ha hi) rfl m5x8e
def Sl.no : Sl := ⟨0, 0, 0, 0, .cells #[] 0, fun _ => 0⟩
theorem Sl.no_ok : SlOK Sl.no := ⟨Nat.le_refl _, fun k hk => absurd hk (Nat.not_lt_zero k)⟩
theorem lists_nil (x a : Int) (u : World) (ha : inI64 a) : @ConOK (valX (rhoI Sl.no x a) Sl.no.xs u) 3 [.nilsl, .sym .i64 1, .sym .i64 0] (.bool true) := by
  letI V := valX (rhoI Sl.no x a) Sl.no.xs u
  have hn : Sl.no.pick 0 6 = Int.ofNat 0 := rfl
  have h9 := aroundI_range (a := a) (m := 9) (by omega)
  have c9 : aroundI a 9 = 0 ∨ aroundI a 9 = 1 ∨ aroundI a 9 = 2 ∨ aroundI a 9 = 3 ∨ aroundI a 9 = 4 ∨ aroundI a 9 = 5 ∨ aroundI a 9 = 6 ∨ aroundI a 9 = 7 ∨ aroundI a 9 = 8 := by omega
  rcases c9 with hi | hi | hi | hi | hi | hi | hi | hi | hi
  · exact con_of_run (ok_m0x0 Sl.no_ok x a u hn ha hi) rfl m0x0n
  · exact con_of_run (ok_m0x1 Sl.no_ok x a u hn ha hi) rfl m0x1n
  · exact con_of_run (ok_m0x2 Sl.no_ok x a u hn ha hi) rfl m0x2n
  · exact con_of_run (ok_m0x3 Sl.no_ok x a u hn ha hi) rfl m0x3n
  · exact con_of_run (ok_m0x4 Sl.no_ok x a u hn ha hi) rfl m0x4n
  · exact con_of_run (ok_m0x5 Sl.no_ok x a u hn ha hi) rfl m0x5n
  · exact con_of_run (ok_m0x6 Sl.no_ok x a u hn ha hi) rfl m0x6n
  · exact con_of_run (ok_m0x7 Sl.no_ok x a u hn ha hi) rfl m0x7n
  · exact con_of_run (ok_m0x8 Sl.no_ok x a u hn ha hi) rfl m0x8n
theorem lists_esl (x a : Int) (u : World) (ha : inI64 a) : @ConOK (valX (rhoI Sl.no x a) Sl.no.xs u) 3 [.esl, .sym .i64 1, .sym .i64 0] (.bool true) := by
  letI V := valX (rhoI Sl.no x a) Sl.no.xs u
  have hn : Sl.no.pick 0 6 = Int.ofNat 0 := rfl
  have h9 := aroundI_range (a := a) (m := 9) (by omega)
  have c9 : aroundI a 9 = 0 ∨ aroundI a 9 = 1 ∨ aroundI a 9 = 2 ∨ aroundI a 9 = 3 ∨ aroundI a 9 = 4 ∨ aroundI a 9 = 5 ∨ aroundI a 9 = 6 ∨ aroundI a 9 = 7 ∨ aroundI a 9 = 8 := by omega
  rcases c9 with hi | hi | hi | hi | hi | hi | hi | hi | hi
  · exact con_of_run (ok_m0x0 Sl.no_ok x a u hn ha hi) rfl m0x0s
  · exact con_of_run (ok_m0x1 Sl.no_ok x a u hn ha hi) rfl m0x1s
  · exact con_of_run (ok_m0x2 Sl.no_ok x a u hn ha hi) rfl m0x2s
  · exact con_of_run (ok_m0x3 Sl.no_ok x a u hn ha hi) rfl m0x3s
  · exact con_of_run (ok_m0x4 Sl.no_ok x a u hn ha hi) rfl m0x4s
  · exact con_of_run (ok_m0x5 Sl.no_ok x a u hn ha hi) rfl m0x5s
  · exact con_of_run (ok_m0x6 Sl.no_ok x a u hn ha hi) rfl m0x6s
  · exact con_of_run (ok_m0x7 Sl.no_ok x a u hn ha hi) rfl m0x7s
  · exact con_of_run (ok_m0x8 Sl.no_ok x a u hn ha hi) rfl m0x8s
end Rfx.RfxEnvB
