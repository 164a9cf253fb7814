/- The loops over the outcomes, put together: PropertyOrder comes to true. -/
import Derived.Test.YtnjpcjnkhelfoacGreatDoorRfxPo3
set_option linter.unusedSectionVars false
set_option linter.unusedVariables false
set_option linter.unusedSimpArgs false
set_option linter.unnecessarySimpa false
namespace Rfx.RfxEnvC
set_option maxRecDepth 20000
open Go Go.Proofs

@[reducible] def V0 : Val := ⟨fun _ => 0, default, #[]⟩
theorem blt0 {a b : Nat} (h : Nat.blt a b = true) : a < b := @blt_t V0 a b h
theorem blf0 {a b : Nat} (h : Nat.blt a b = false) : b ≤ a := @blt_f V0 a b h
theorem beq0 {a b : Nat} (h : Nat.beq a b = true) : a = b := @beq_t V0 a b h
theorem then0 {k : K} {r : Out} {e : AE} {fr' : Fr} {h' : AH} (hh : thenK k r = some (e, fr', h')) :
    (∃ fr1 h1, r = some (.normal, fr1, h1) ∧ k fr1 h1 = some (e, fr', h')) ∨ (e ≠ .normal ∧ r = some (e, fr', h')) := @thenK_ok V0 k r e fr' h' hh

/-! ### the plain law -/
theorem worseI_iff (k a e k' a' e' : Int) : worseI k a e k' a' e' = true ↔ pl k < pl k' ∨ (pl k = pl k' ∧ (a < a' ∨ (a = a' ∧ e < e'))) := by
  unfold worseI worseS signI
  by_cases h1 : pl k = pl k'
  · rw [h1, Nat.beq_refl, cond_true]
    by_cases h2 : a < a'
    · rw [if_pos h2]
      exact ⟨fun _ => .inr ⟨rfl, .inl h2⟩, fun _ => rfl⟩
    · rw [if_neg h2]
      by_cases h3 : a = a'
      · rw [if_pos h3]
        by_cases h4 : e < e'
        · rw [if_pos h4]; simp [h3, h4]
        · rw [if_neg h4]
          by_cases h5 : e = e'
          · rw [if_pos h5]; simp [h2, h4]
          · rw [if_neg h5]; simp [h2, h4]
      · rw [if_neg h3]; simp [h2, h3]
  · have : Nat.beq (pl k) (pl k') = false := by
      cases hb : Nat.beq (pl k) (pl k') with
      | false => rfl
      | true => exact absurd (Nat.eq_of_beq_eq_true hb) h1
    rw [this, cond_false]
    constructor
    · intro h; exact .inl (blt0 h)
    · rintro (h | ⟨h, _⟩)
      · exact Nat.ble_eq_true_of_le h
      · exact absurd h h1

section
variable (a b c x y k : Int)
def ki : Nat → Int
  | 0 => a | 1 => b | 2 => c | 3 => 1 | 4 => 2 | _ => 0
def ai : Nat → Int
  | 0 => x | 1 => y | 2 => x | 3 => x | 4 => y | _ => x
def ci : Nat → Int
  | 0 => k | 1 => k | 2 => x | 3 => k | 4 => k | _ => x
def tb : Tb where
  W i j := worseI (ki a b c i) (ai x y i) (ci x k i) (ki a b c j) (ai x y j) (ci x k j)
  Q i j := eqI (ki a b c i) (ai x y i) (ci x k i) (ki a b c j) (ai x y j) (ci x k j)
  F i := failsI (ki a b c i)
  K1 i := decide (ki a b c i = 1)
  K2 i := decide (ki a b c i = 2)
  G i := decide (0 ≤ ki a b c i)
  L i := decide (ki a b c i < 3)
end

structure TbOK (T : Tb) : Prop where
  irr : ∀ i, T.W i i = false
  tr : ∀ i j n, T.W i j = true → T.W j n = true → T.W i n = true
  one : ∀ i j, T.G i = true → T.L i = true → T.G j = true → T.L j = true → T.Q i j = false → T.W i j = !T.W j i
  refl : ∀ i, T.Q i i = true
  fl : ∀ i, T.F i = (T.K1 i || T.K2 i)
  k3 : T.K1 3 = true
  k4 : T.K1 4 = false ∧ T.K2 4 = true
  k5 : T.K1 5 = false ∧ T.K2 5 = false
  g : ∀ i, 3 ≤ i → T.G i = true ∧ T.L i = true

theorem tb_ok (a b c x y k : Int) : TbOK (tb a b c x y k) where
  irr i := by
    show worseI _ _ _ _ _ _ = false
    rw [Bool.eq_false_iff]; intro h
    rw [worseI_iff] at h
    omega
  tr i j n h1 h2 := by
    change worseI _ _ _ _ _ _ = true at h1
    change worseI _ _ _ _ _ _ = true at h2
    show worseI _ _ _ _ _ _ = true
    rw [worseI_iff] at h1 h2 ⊢
    omega
  one i j h1 h2 h3 h4 h5 := by
    change decide (0 ≤ ki a b c i) = true at h1
    change decide (ki a b c i < 3) = true at h2
    change decide (0 ≤ ki a b c j) = true at h3
    change decide (ki a b c j < 3) = true at h4
    change eqI _ _ _ _ _ _ = false at h5
    show worseI _ _ _ _ _ _ = !worseI _ _ _ _ _ _
    simp only [decide_eq_true_eq] at h1 h2 h3 h4
    have inj : pl (ki a b c i) = pl (ki a b c j) → ki a b c i = ki a b c j := by
      unfold pl
      intro h
      repeat' split at h
      all_goals omega
    have h6 : ¬ (ki a b c i = ki a b c j ∧ ai x y i = ai x y j ∧ ci x k i = ci x k j) := by
      rintro ⟨e1, e2, e3⟩
      rw [e1, e2, e3] at h5
      simp [eqI] at h5
    rw [Bool.eq_iff_iff, Bool.not_eq_true', Bool.eq_false_iff, ne_eq, worseI_iff, worseI_iff]
    omega
  refl i := by
    show eqI _ _ _ _ _ _ = true
    simp [eqI]
  fl i := rfl
  k3 := by show decide ((1 : Int) = 1) = true; decide
  k4 := ⟨by show decide ((2 : Int) = 1) = false; decide, by show decide ((2 : Int) = 2) = true; decide⟩
  k5 := ⟨by show decide ((0 : Int) = 1) = false; decide, by show decide ((0 : Int) = 2) = false; decide⟩
  g i hi := by
    have : ki a b c i = 1 ∨ ki a b c i = 2 ∨ ki a b c i = 0 := by
      match i, hi with
      | 3, _ => exact .inl rfl
      | 4, _ => exact .inr (.inl rfl)
      | n + 5, _ => exact .inr (.inr rfl)
    constructor
    · show decide (0 ≤ ki a b c i) = true
      rw [decide_eq_true_eq]; omega
    · show decide (ki a b c i < 3) = true
      rw [decide_eq_true_eq]; omega

/-! ### overriding with what is so -/
theorem upd1_self {F : Nat → Bool} {i : Nat} {b : Bool} (h : F i = b) : upd1 F i b = F := by
  funext x
  unfold upd1
  cases hx : Nat.beq x i with
  | true => rw [cond_true, beq0 hx, h]
  | false => rfl
theorem upd_self {W : Nat → Nat → Bool} {i j : Nat} {b : Bool} (h : W i j = b) : upd W i j b = W := by
  funext x y
  unfold upd
  cases hx : (Nat.beq x i && Nat.beq y j) with
  | true =>
    rw [Bool.and_eq_true] at hx
    rw [cond_true, beq0 hx.1, beq0 hx.2, h]
  | false => rfl

theorem ovI_ex {T : Tb} (hT : TbOK T) (i j n : Nat) : ∃ s, s < 3 ∧ ovI T i j n s = T := by
  cases h1 : T.W i j with
  | false => exact ⟨0, by omega, by simp only [ovI]; rw [upd_self h1]⟩
  | true =>
    cases h2 : T.W j n with
    | false => exact ⟨1, by omega, by simp only [ovI]; rw [upd_self h2, upd_self h1]⟩
    | true => exact ⟨2, by omega, by simp only [ovI]; rw [upd_self (hT.tr i j n h1 h2), upd_self h2, upd_self h1]⟩
theorem ovA_self (T : Tb) (i j : Nat) : ovA T i j (T.F i) (T.W i j) (T.Q i j) = T := by
  unfold ovA; rw [upd1_self rfl, upd_self rfl, upd_self rfl]

theorem ovB_ex {T : Tb} (hT : TbOK T) (i j : Nat) : ∃ s, s ∈ clB i j ∧ ovB T i j s = T := by
  have mem : ∀ s, s ∈ clB i j ↔ ((i < 3 ∧ (s = 0 ∨ s = 1)) ∨ (i ≠ j ∧ j < 3 ∧ (s = 2 ∨ s = 3)) ∨ s = 4 ∨ (i ≠ j ∧ (s = 5 ∨ s = 6))) := by
    intro s
    unfold clB
    have h3 : ∀ n : Nat, Nat.blt n 3 = decide (n < 3) := fun n => by
      cases h : Nat.blt n 3 with
      | true => exact (decide_eq_true (blt0 h)).symm
      | false => exact (decide_eq_false (by have := blf0 h; omega)).symm
    have hb : Nat.beq i j = decide (i = j) := by
      cases h : Nat.beq i j with
      | true => exact (decide_eq_true (beq0 h)).symm
      | false => refine (decide_eq_false ?_).symm; rintro rfl; rw [Nat.beq_refl] at h; cases h
    rw [h3, h3, hb]
    by_cases e1 : i < 3 <;> by_cases e2 : i = j <;> by_cases e3 : j < 3 <;> simp [e1, e2, e3] <;> omega
  cases g1 : T.G i with
  | false =>
    have hi : i < 3 := by rcases Nat.lt_or_ge i 3 with h | h; exact h; rw [(hT.g i h).1] at g1; cases g1
    exact ⟨0, (mem 0).2 (.inl ⟨hi, .inl rfl⟩), by simp only [ovB]; rw [upd1_self g1]⟩
  | true =>
  cases l1 : T.L i with
  | false =>
    have hi : i < 3 := by rcases Nat.lt_or_ge i 3 with h | h; exact h; rw [(hT.g i h).2] at l1; cases l1
    exact ⟨1, (mem 1).2 (.inl ⟨hi, .inr rfl⟩), by simp only [ovB]; rw [upd1_self g1, upd1_self l1]⟩
  | true =>
  cases g2 : T.G j with
  | false =>
    have hj : j < 3 := by rcases Nat.lt_or_ge j 3 with h | h; exact h; rw [(hT.g j h).1] at g2; cases g2
    have hne : i ≠ j := by rintro rfl; rw [g1] at g2; cases g2
    exact ⟨2, (mem 2).2 (.inr (.inl ⟨hne, hj, .inl rfl⟩)), by simp only [ovB]; rw [upd1_self g2, upd1_self g1, upd1_self l1]⟩
  | true =>
  cases l2 : T.L j with
  | false =>
    have hj : j < 3 := by rcases Nat.lt_or_ge j 3 with h | h; exact h; rw [(hT.g j h).2] at l2; cases l2
    have hne : i ≠ j := by rintro rfl; rw [l1] at l2; cases l2
    exact ⟨3, (mem 3).2 (.inr (.inl ⟨hne, hj, .inr rfl⟩)), by simp only [ovB]; rw [upd1_self g2, upd1_self g1, upd1_self l2, upd1_self l1]⟩
  | true =>
  cases q : T.Q i j with
  | true => exact ⟨4, (mem 4).2 (.inr (.inr (.inl rfl))), by simp only [ovB]; rw [upd1_self g2, upd1_self g1, upd1_self l2, upd1_self l1, upd_self q]⟩
  | false =>
    have hne : i ≠ j := by rintro rfl; rw [hT.refl] at q; cases q
    have ho := hT.one i j g1 l1 g2 l2 q
    cases w : T.W i j with
    | true =>
      have w' : T.W j i = false := by rw [w] at ho; revert ho; cases T.W j i <;> intro ho <;> first | rfl | exact absurd ho (by decide)
      exact ⟨5, (mem 5).2 (.inr (.inr (.inr ⟨hne, .inl rfl⟩))), by
        show ({ T with G := upd1 (upd1 T.G j true) i true, L := upd1 (upd1 T.L j true) i true, Q := upd T.Q i j false, W := upd (upd T.W j i false) i j true } : Tb) = T
        rw [upd1_self g2, upd1_self g1, upd1_self l2, upd1_self l1, upd_self q, upd_self w', upd_self w]⟩
    | false =>
      have w' : T.W j i = true := by rw [w] at ho; revert ho; cases T.W j i <;> intro ho <;> first | rfl | exact absurd ho (by decide)
      exact ⟨6, (mem 6).2 (.inr (.inr (.inr ⟨hne, .inr rfl⟩))), by
        show ({ T with G := upd1 (upd1 T.G j true) i true, L := upd1 (upd1 T.L j true) i true, Q := upd T.Q i j false, W := upd (upd T.W j i true) i j false } : Tb) = T
        rw [upd1_self g2, upd1_self g1, upd1_self l2, upd1_self l1, upd_self q, upd_self w', upd_self w]⟩

theorem ovO_ex {T : Tb} (hT : TbOK T) (i : Nat) (hi : i < 6) : ∃ s, (i, s) ∈ csO ∧ ovO T i s = T := by
  have e0 : T.K1 i = true → ovO T i 0 = T := fun h => by
    have hf : T.F i = true := by rw [hT.fl, h]; rfl
    simp only [ovO]; rw [upd1_self h, upd1_self hf, upd_self (hT.irr i)]
  have e1 : T.K1 i = false → T.K2 i = true → ovO T i 1 = T := fun h h' => by
    have hf : T.F i = true := by rw [hT.fl, h, h']; rfl
    simp only [ovO]; rw [upd1_self h, upd1_self h', upd1_self hf, upd_self (hT.irr i)]
  have e2 : T.K1 i = false → T.K2 i = false → ovO T i 2 = T := fun h h' => by
    have hf : T.F i = false := by rw [hT.fl, h, h']; rfl
    simp only [ovO]; rw [upd1_self h, upd1_self h', upd1_self hf, upd_self (hT.irr i)]
  have small : i < 3 → ∃ s, (i, s) ∈ csO ∧ ovO T i s = T := fun h => by
    have m : ∀ s, s < 3 → (i, s) ∈ csO := fun s hs => by
      match i, h, s, hs with
      | 0, _, 0, _ | 0, _, 1, _ | 0, _, 2, _ | 1, _, 0, _ | 1, _, 1, _ | 1, _, 2, _ | 2, _, 0, _ | 2, _, 1, _ | 2, _, 2, _ => simp [csO]
    cases k1 : T.K1 i with
    | true => exact ⟨0, m 0 (by omega), e0 k1⟩
    | false =>
      cases k2 : T.K2 i with
      | true => exact ⟨1, m 1 (by omega), e1 k1 k2⟩
      | false => exact ⟨2, m 2 (by omega), e2 k1 k2⟩
  match i, hi with
  | 0, _ | 1, _ | 2, _ => exact small (by omega)
  | 3, _ => exact ⟨0, by simp [csO], e0 hT.k3⟩
  | 4, _ => exact ⟨1, by simp [csO], e1 hT.k4.1 hT.k4.2⟩
  | 5, _ => exact ⟨2, by simp [csO], e2 hT.k5.1 hT.k5.2⟩

/-! ### the code, put together -/
theorem X_seq (T : Tb) (p q : Code) (fr : Fr) (h : AH) : X T (.seq p q) fr h = thenK (X T q) (X T p fr h) := rfl
theorem X_block (T : Tb) (id : Nat) (p : Code) (fr : Fr) (h : AH) : X T (.block id p) fr h = blockK id (X T p fr h) := rfl
theorem X_loop (T : Tb) (p : Code) (fr : Fr) (h : AH) : X T (.loop p) fr h = loopA (X T p) 50 fr h := rfl
theorem thenK_assoc (k1 k2 : K) (r : Out) : thenK k2 (thenK k1 r) = thenK (fun fr h => thenK k2 (k1 fr h)) r := by
  cases r with
  | none => rfl
  | some x =>
    obtain ⟨e, fr, h⟩ := x
    cases e <;> rfl
theorem X_assoc (T : Tb) (p q r : Code) (fr : Fr) (h : AH) : X T (.seq (.seq p q) r) fr h = X T (.seq p (.seq q r)) fr h := by
  rw [X_seq, X_seq, X_seq, thenK_assoc]; rfl
theorem X_assoc' (T : Tb) (p q r : Code) : X T (.seq p (.seq q r)) = X T (.seq (.seq p q) r) := by
  funext fr h; rw [X_assoc]
/-- what comes behind a normal end -/
theorem X_then {T : Tb} {p q : Code} {fr fr' : Fr} {h h' : AH} (e : X T p fr h = some (.normal, fr', h')) : X T (.seq p q) fr h = X T q fr' h' := by
  rw [X_seq, e]; rfl
theorem seq_congr (T : Tb) {p q q' : Code} (e : X T q = X T q') : X T (.seq p q) = X T (.seq p q') := by
  funext fr h; rw [X_seq, X_seq, e]

theorem loop_run (b : K) (st : Nat → Fr) (g : Nat → AH) (N : Nat) (res : Out) (hn : ∀ n, n < N → b (st n) (g n) = some (.normal, st (n + 1), g (n + 1))) (he : b (st N) (g N) = res) (hx : ∀ k, thenK k res = res) :
    ∀ d m, d ≤ N → m > d → loopA b m (st (N - d)) (g (N - d)) = res := by
  intro d
  induction d with
  | zero =>
    intro m _ hm
    obtain ⟨m, rfl⟩ : ∃ m', m = m' + 1 := ⟨m - 1, by omega⟩
    show thenK (loopA b m) (b (st N) (g N)) = res
    rw [he]; exact hx _
  | succ d ih =>
    intro m hd hm
    obtain ⟨m, rfl⟩ : ∃ m', m = m' + 1 := ⟨m - 1, by omega⟩
    show thenK (loopA b m) (b (st (N - (d + 1))) (g (N - (d + 1)))) = res
    rw [hn _ (by omega)]
    have := ih m (by omega) (by omega)
    rw [show N - (d + 1) + 1 = N - d by omega]
    exact this
theorem loop_run0 (b : K) (st : Nat → Fr) (g : Nat → AH) (N m : Nat) (res : Out) (hm : m > N) (hn : ∀ n, n < N → b (st n) (g n) = some (.normal, st (n + 1), g (n + 1))) (he : b (st N) (g N) = res) (hx : ∀ k, thenK k res = res) :
    loopA b m (st 0) (g 0) = res := by
  have := loop_run b st g N res hn he hx N m (Nat.le_refl _) hm
  rwa [Nat.sub_self] at this
theorem exit_stop {i : Nat} {r : Out} (h : isExit i r = true) (k : K) : thenK k r = r := by
  cases r with
  | none => rfl
  | some x =>
    obtain ⟨e, fr, g⟩ := x
    cases e <;> first | rfl | (simp [isExit] at h)

theorem map_eq {α β : Type} {f g : α → β} {l : List α} (h : l.map f = l.map g) {x : α} (hx : x ∈ l) : f x = g x := by
  induction l with
  | nil => cases hx
  | cons y l ih =>
    simp only [List.map_cons, List.cons.injEq] at h
    rcases List.mem_cons.1 hx with rfl | hx
    · exact h.1
    · exact ih h.2 hx
theorem mem_r6 {i : Nat} (h : i < 6) : i ∈ r6 := by
  have : r6 = List.range 6 := rfl
  rw [this]; exact List.mem_range.2 h

section
variable {T : Tb} (hT : TbOK T)
include hT

theorem inner {i j : Nat} (hi : i < 6) (hj : j < 6) : X T (.block 6 (.loop cI)) (frI T i j 0) (hp (nI i j 0)) = blockK 6 (X T cI (frI T i j 6) (hp (nI i j 6))) := by
  rw [X_block, X_loop]
  refine congrArg (blockK 6) ?_
  have hex : isExit 6 (X T cI (frI T i j 6) (hp (nI i j 6))) = true := by
    have := exitI T
    rw [List.all_eq_true] at this
    exact this (i, j) (List.mem_flatMap.2 ⟨i, mem_r6 hi, List.mem_map.2 ⟨j, mem_r6 hj, rfl⟩⟩)
  refine loop_run0 (X T cI) (frI T i j) (fun n => hp (nI i j n)) 6 50 _ (by omega) (fun n hn => ?_) rfl (exit_stop hex)
  obtain ⟨s, hs, ho⟩ := ovI_ex hT i j n
  have hall : csI.map (lhsI T i) = csI.map (rhsI T i) := by
    match i, hi with
    | 0, _ => exact stepI0 T
    | 1, _ => exact stepI1 T
    | 2, _ => exact stepI2 T
    | 3, _ => exact stepI3 T
    | 4, _ => exact stepI4 T
    | 5, _ => exact stepI5 T
  have hm : (j, n, s) ∈ csI := by
    refine List.mem_flatMap.2 ⟨j, mem_r6 hj, List.mem_flatMap.2 ⟨n, mem_r6 hn, ?_⟩⟩
    match s, hs with
    | 0, _ | 1, _ | 2, _ => simp
  have := map_eq hall hm
  unfold lhsI rhsI at this
  dsimp only at this
  rw [ho] at this
  exact this

theorem mid {i j : Nat} (hi : i < 6) (hj : j < 6) : X T cM (frM T i j) (hp (nM i j)) = some (.normal, frM T i (j + 1), hp (nM i (j + 1))) := by
  have hA : X T (.seq (cL cM) rA) (frM T i j) (hp (nM i j)) = some (.normal, frA T i j, hp (nA i j)) := by
    have hall : csA.map (lhsA T i) = csA.map (rhsA T i) := by
      match i, hi with
      | 0, _ => exact stepA0 T
      | 1, _ => exact stepA1 T
      | 2, _ => exact stepA2 T
      | 3, _ => exact stepA3 T
      | 4, _ => exact stepA4 T
      | 5, _ => exact stepA5 T
    have hb : ∀ b : Bool, b ∈ [true, false] := fun b => by cases b <;> simp
    have := map_eq hall (x := (j, T.F i, T.W i j, T.Q i j)) (List.mem_flatMap.2 ⟨j, mem_r6 hj, List.mem_flatMap.2 ⟨_, hb _, List.mem_flatMap.2 ⟨_, hb _, List.mem_map.2 ⟨_, hb _, rfl⟩⟩⟩⟩)
    unfold lhsA rhsA at this
    dsimp only at this
    rw [ovA_self] at this
    exact this
  have hB : X T rB (frA T i j) (hp (nA i j)) = some (.normal, frI T i j 0, hp (nI i j 0)) := by
    have hall : (csB i).map (lhsB T i) = (csB i).map (rhsB T i) := by
      match i, hi with
      | 0, _ => exact stepB0 T
      | 1, _ => exact stepB1 T
      | 2, _ => exact stepB2 T
      | 3, _ => exact stepB3 T
      | 4, _ => exact stepB4 T
      | 5, _ => exact stepB5 T
    obtain ⟨s, hs, ho⟩ := ovB_ex hT i j
    have := map_eq hall (x := (j, s)) (List.mem_flatMap.2 ⟨j, mem_r6 hj, List.mem_map.2 ⟨s, hs, rfl⟩⟩)
    unfold lhsB rhsB at this
    dsimp only at this
    rw [ho] at this
    exact this
  have hE : thenK (X T (cR (cR cM))) (blockK 5 (blockK 6 (X T cI (frI T i j 6) (hp (nI i j 6))))) = some (.normal, frM T i (j + 1), hp (nM i (j + 1))) :=
    map_eq (stepE T) (x := (i, j)) (List.mem_flatMap.2 ⟨i, mem_r6 hi, List.mem_map.2 ⟨j, mem_r6 hj, rfl⟩⟩)
  rw [X_seq] at hA
  rcases then0 hA with ⟨fr1, h1, k1, k2⟩ | ⟨hne, _⟩
  · have hblk : X T blk5 fr1 h1 = blockK 6 (X T cI (frI T i j 6) (hp (nI i j 6))) := by
      rw [blk5_eq, X_assoc']
      refine (X_then k2).trans ?_
      have : X T (.seq (cL (cR (cR blk5))) (.seq (cL (cR (cR (cR blk5)))) (.seq (cL (cR (cR (cR (cR blk5))))) (.block 6 (.loop cI))))) = X T (.seq rB (.block 6 (.loop cI))) := by
        funext fr h
        unfold rB
        rw [X_assoc, seq_congr T (X_assoc' T _ _ _).symm]
      rw [this]
      exact (X_then hB).trans (inner hT hi hj)
    rw [cM_eq]
    refine (X_then k1).trans ?_
    rw [X_seq, X_block, hblk]
    exact hE
  · exact absurd rfl hne

theorem outer {i : Nat} (hi : i < 6) : X T cO (frO i) (hp (nO i)) = some (.normal, frO (i + 1), hp (nO (i + 1))) := by
  have hO : X T (.seq (cL cO) rO) (frO i) (hp (nO i)) = some (.normal, frM T i 0, hp (nM i 0)) := by
    obtain ⟨s, hs, ho⟩ := ovO_ex hT i hi
    have := map_eq (stepO T) hs
    unfold lhsO rhsO at this
    dsimp only at this
    rw [ho] at this
    exact this
  have hloop : X T (.block 4 (.loop cM)) (frM T i 0) (hp (nM i 0)) = blockK 4 (X T cM (frM T i 6) (hp (nM i 6))) := by
    rw [X_block, X_loop]
    refine congrArg (blockK 4) ?_
    have hex : isExit 4 (X T cM (frM T i 6) (hp (nM i 6))) = true := by
      have := exitM T
      rw [List.all_eq_true] at this
      exact this i (mem_r6 hi)
    exact loop_run0 (X T cM) (frM T i) (fun n => hp (nM i n)) 6 50 _ (by omega) (fun n hn => mid hT hi hn) rfl (exit_stop hex)
  have hF : thenK (X T (cR (cR cO))) (blockK 3 (blockK 4 (X T cM (frM T i 6) (hp (nM i 6))))) = some (.normal, frO (i + 1), hp (nO (i + 1))) :=
    map_eq (stepF T) (mem_r6 hi)
  rw [X_seq] at hO
  rcases then0 hO with ⟨fr1, h1, k1, k2⟩ | ⟨hne, _⟩
  · have hblk : X T blk3 fr1 h1 = blockK 4 (X T cM (frM T i 6) (hp (nM i 6))) := by
      rw [blk3_eq]
      have : X T (.seq (cL blk3) (.seq (cL (cR blk3)) (.seq (cL (cR (cR blk3))) (.block 4 (.loop cM))))) = X T (.seq rO (.block 4 (.loop cM))) := by
        funext fr h
        unfold rO
        rw [X_assoc, seq_congr T (X_assoc' T _ _ _).symm]
      rw [this]
      exact (X_then k2).trans hloop
    rw [cO_eq]
    refine (X_then k1).trans ?_
    rw [X_seq, X_block, hblk]
    exact hF
  · exact absurd rfl hne

theorem whole : isRet (X T body fr0 ⟨0, .nil⟩) = true := by
  have hloop : X T (.block 2 (.loop cO)) (frO 0) (hp (nO 0)) = blockK 2 (X T cO (frO 6) (hp (nO 6))) := by
    rw [X_block, X_loop]
    refine congrArg (blockK 2) ?_
    exact loop_run0 (X T cO) frO (fun n => hp (nO n)) 6 50 _ (by omega) (fun n hn => outer hT hn) rfl (exit_stop (exitO T))
  have : X T body fr0 ⟨0, .nil⟩ = thenK (X T cC) (blockK 2 (X T cO (frO 6) (hp (nO 6)))) := by
    rw [body_eq]
    have e : X T (.seq (cL body) (.seq (cL (cR body)) (.seq (cL (cR (cR body))) (.seq cA (.seq (.seq (cL cB) (.block 2 (.loop cO))) cC))))) = X T (.seq pre (.seq (.block 2 (.loop cO)) cC)) := by
      unfold pre
      rw [X_assoc', X_assoc', X_assoc']
      rw [seq_congr T (X_assoc' T _ _ _).symm, X_assoc']
    rw [e]
    refine (X_then (stepS T)).trans ?_
    rw [X_seq, hloop]
  rw [this]
  exact stepZ T

theorem run : ∃ h', evalN (envM T) 51 3 args6 ⟨0, .nil⟩ = some (.ret (.bool true), h') := by
  have hw := whole hT
  have he : evalN (envM T) 51 3 args6 ⟨0, .nil⟩ = leaveA (envM T) (dcall (envM T) (evalN (envM T) 50) 50) Tryz.f3 (X T body fr0 ⟨0, .nil⟩) := by
    show bodyA (envM T) (evalN (envM T) 50) 50 3 args6 ⟨0, .nil⟩ = _
    unfold bodyA
    have hc : (envM T).con 3 args6 = none := rfl
    rw [hc]
    dsimp only
    rw [fn_eq]
    dsimp only
    rw [fbody_eq, start_eq]
    rfl
  rw [he]
  cases hx : X T body fr0 ⟨0, .nil⟩ with
  | none => rw [hx] at hw; simp [isRet] at hw
  | some p =>
    obtain ⟨e, fr, h⟩ := p
    rw [hx] at hw
    cases e with
    | ret =>
      obtain ⟨tm, n, dfs⟩ := fr
      simp only [isRet] at hw
      cases ht : tm.get 12 with
      | none => rw [ht] at hw; simp at hw
      | some v =>
        rw [ht] at hw
        cases v with
        | bool q =>
          cases dfs with
          | cons _ _ => simp at hw
          | nil =>
            dsimp only at hw
            subst hw
            refine ⟨h, ?_⟩
            simp only [leaveA, runDefers, finishA, resultsA, res_eq, resA, ht, tupA, Option.getD_some]
        | _ => simp at hw
    | _ => simp [isRet] at hw
end
end Rfx.RfxEnvC
