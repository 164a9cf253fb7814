/- What an abstract value, an abstract heap say of the model's world; how a world may go on. -/
import Derived.Test.YtnjpcjnkhelfoabGreatDoorRfxMach
import Derived.Laws.Sem
import Derived.Laws.Strings
import Derived.CallsIn
set_option linter.unusedSectionVars false
set_option linter.unusedVariables false
set_option linter.unusedSimpArgs false
set_option linter.unnecessarySimpa false
namespace Rfx
open Go

/-! ### tries -/
namespace Tr
variable {α : Type}
theorem get_nil (k : Nat) : (Tr.nil : Tr α).get k = none := rfl
theorem get_node (v : Option α) (l r : Tr α) (k : Nat) :
    (Tr.node v l r).get k = bif Nat.beq k 0 then v else bif Nat.beq (k % 2) 1 then l.get (k / 2) else r.get (k / 2 - 1) := by
  cases k with
  | zero => rfl
  | succ k =>
    show Nat.rec (motive := fun _ => Option α) (l.get (k / 2)) (fun _ _ => r.get (k / 2)) (k % 2) = bif Nat.beq ((k + 1) % 2) 1 then l.get ((k + 1) / 2) else r.get ((k + 1) / 2 - 1)
    rcases Nat.mod_two_eq_zero_or_one k with e | e
    · rw [e, show (k + 1) % 2 = 1 by omega, show (k + 1) / 2 = k / 2 by omega]; rfl
    · rw [e, show (k + 1) % 2 = 0 by omega, show (k + 1) / 2 - 1 = k / 2 by omega]; rfl
theorem setF_zero (v : Option α) (t : Tr α) (k : Nat) : setF v 0 t k = t := rfl
theorem setF_nil (v : Option α) (d k : Nat) : setF v (d + 1) .nil k =
    (bif Nat.beq k 0 then .node v .nil .nil else bif Nat.beq (k % 2) 1 then .node none (setF v d .nil (k / 2)) .nil else .node none .nil (setF v d .nil (k / 2 - 1))) := by
  cases k with
  | zero => rfl
  | succ k =>
    show Nat.rec (motive := fun _ => Tr α) (.node none (setF v d .nil (k / 2)) .nil) (fun _ _ => .node none .nil (setF v d .nil (k / 2))) (k % 2) =
      bif Nat.beq ((k + 1) % 2) 1 then .node none (setF v d .nil ((k + 1) / 2)) .nil else .node none .nil (setF v d .nil ((k + 1) / 2 - 1))
    rcases Nat.mod_two_eq_zero_or_one k with e | e
    · rw [e, show (k + 1) % 2 = 1 by omega, show (k + 1) / 2 = k / 2 by omega]; rfl
    · rw [e, show (k + 1) % 2 = 0 by omega, show (k + 1) / 2 - 1 = k / 2 by omega]; rfl
theorem setF_node (v : Option α) (d k : Nat) (w : Option α) (l r : Tr α) : setF v (d + 1) (.node w l r) k =
    (bif Nat.beq k 0 then .node v l r else bif Nat.beq (k % 2) 1 then .node w (setF v d l (k / 2)) r else .node w l (setF v d r (k / 2 - 1))) := by
  cases k with
  | zero => rfl
  | succ k =>
    show Nat.rec (motive := fun _ => Tr α) (.node w (setF v d l (k / 2)) r) (fun _ _ => .node w l (setF v d r (k / 2))) (k % 2) =
      bif Nat.beq ((k + 1) % 2) 1 then .node w (setF v d l ((k + 1) / 2)) r else .node w l (setF v d r ((k + 1) / 2 - 1))
    rcases Nat.mod_two_eq_zero_or_one k with e | e
    · rw [e, show (k + 1) % 2 = 1 by omega, show (k + 1) / 2 = k / 2 by omega]; rfl
    · rw [e, show (k + 1) % 2 = 0 by omega, show (k + 1) / 2 - 1 = k / 2 by omega]; rfl

theorem get_setF (v : Option α) : ∀ (d : Nat) (t : Tr α) (k k' : Nat), k < d → (setF v d t k).get k' = if k = k' then v else t.get k' := by
  intro d
  induction d with
  | zero => intro t k k' h; omega
  | succ d ih =>
    intro t k k' h
    have beq_ne : ∀ {a b : Nat}, a ≠ b → Nat.beq a b = false := fun {a b} h => by
      cases hb : Nat.beq a b with
      | false => rfl
      | true => exact absurd (Nat.eq_of_beq_eq_true hb) h
    cases t with
    | nil =>
      rw [setF_nil]
      by_cases h0 : k = 0
      · subst h0
        simp only [Nat.beq_refl, cond_true, get_node, get_nil]
        by_cases h1 : k' = 0
        · subst h1; simp
        · rw [if_neg (fun h => h1 h.symm), beq_ne h1]; simp [get_nil]
      · rw [beq_ne h0]
        simp only [cond_false]
        by_cases hp : k % 2 = 1
        · rw [hp]; simp only [Nat.beq_refl, cond_true, get_node]
          by_cases h1 : k' = 0
          · subst h1; rw [if_neg h0]; rfl
          · rw [beq_ne h1]; simp only [cond_false]
            by_cases hp' : k' % 2 = 1
            · rw [hp']; simp only [Nat.beq_refl, cond_true]; rw [ih _ _ _ (by omega)]
              by_cases e : k = k'
              · subst e; simp
              · rw [if_neg e, if_neg (by omega)]; simp [get_nil]
            · rw [beq_ne hp']; simp only [cond_false, get_nil]; rw [if_neg (by rintro rfl; exact hp' hp)]
        · rw [beq_ne hp]; simp only [cond_false, get_node]
          by_cases h1 : k' = 0
          · subst h1; rw [if_neg h0]; rfl
          · rw [beq_ne h1]; simp only [cond_false]
            by_cases hp' : k' % 2 = 1
            · rw [hp']; simp only [Nat.beq_refl, cond_true, get_nil]; rw [if_neg (by rintro rfl; exact hp hp')]
            · rw [beq_ne hp']; simp only [cond_false]; rw [ih _ _ _ (by omega)]
              by_cases e : k = k'
              · subst e; simp
              · rw [if_neg e, if_neg (by omega)]; simp [get_nil]
    | node w l r =>
      rw [setF_node]
      by_cases h0 : k = 0
      · subst h0
        simp only [Nat.beq_refl, cond_true, get_node]
        by_cases h1 : k' = 0
        · subst h1; simp
        · rw [if_neg (fun h => h1 h.symm), beq_ne h1]; rfl
      · rw [beq_ne h0]
        simp only [cond_false]
        by_cases hp : k % 2 = 1
        · rw [hp]; simp only [Nat.beq_refl, cond_true, get_node]
          by_cases h1 : k' = 0
          · subst h1; rw [if_neg h0]; rfl
          · rw [beq_ne h1]; simp only [cond_false]
            by_cases hp' : k' % 2 = 1
            · rw [hp']; simp only [Nat.beq_refl, cond_true]; rw [ih _ _ _ (by omega)]
              by_cases e : k = k'
              · subst e; simp
              · rw [if_neg e, if_neg (by omega)]
            · rw [beq_ne hp']; simp only [cond_false]; rw [if_neg (by rintro rfl; exact hp' hp)]
        · rw [beq_ne hp]; simp only [cond_false, get_node]
          by_cases h1 : k' = 0
          · subst h1; rw [if_neg h0]; rfl
          · rw [beq_ne h1]; simp only [cond_false]
            by_cases hp' : k' % 2 = 1
            · rw [hp']; simp only [Nat.beq_refl, cond_true]; rw [if_neg (by rintro rfl; exact hp hp')]
            · rw [beq_ne hp']; simp only [cond_false]; rw [ih _ _ _ (by omega)]
              by_cases e : k = k'
              · subst e; simp
              · rw [if_neg e, if_neg (by omega)]

theorem get_set (t : Tr α) (k k' : Nat) (v : α) : (t.set k v).get k' = if k = k' then some v else t.get k' :=
  get_setF _ _ _ _ _ (Nat.lt_succ_self k)
theorem get_del (t : Tr α) (k k' : Nat) : (t.del k).get k' = if k = k' then none else t.get k' :=
  get_setF _ _ _ _ _ (Nat.lt_succ_self k)
theorem get_set_same (t : Tr α) (k : Nat) (v : α) : (t.set k v).get k = some v := by rw [get_set, if_pos rfl]
theorem get_set_ne (t : Tr α) {k k' : Nat} (v : α) (h : k ≠ k') : (t.set k v).get k' = t.get k' := by rw [get_set, if_neg h]
theorem get_del_same (t : Tr α) (k : Nat) : (t.del k).get k = none := by rw [get_del, if_pos rfl]
theorem get_del_ne (t : Tr α) {k k' : Nat} (h : k ≠ k') : (t.del k).get k' = t.get k' := by rw [get_del, if_neg h]
end Tr

/-! ### values -/
/-- what the numbers that are not known stand for -/
class Val where
  val : Nat → Int
  os : Os
  out : Array (Nat × ByteArray)
  /-- slices that came in: block, offset, length, capacity, what lies in the block -/
  xb : Nat → Nat
  xo : Nat → Nat
  xn : Nat → Nat
  xc : Nat → Nat
  xobj : Nat → Obj
variable [Val]

structure Cx where
  loc : Nat → Option (Nat × Nat)
  frz : Nat → Prop
  /-- ids kept for what is made later -/
  rsv : Nat → Prop
  /-- so large was the world's heap when the activation began -/
  base : Nat

def Cx.opn (c : Cx) (o : Nat) : Prop := c.loc o = none ∧ ¬ c.rsv o

mutual
def crel (c : Cx) (w : World) : AV → Value → Prop
  | .undef, _ => True
  | .bool b, v => v = .bool b
  | .int k n, v => v = .int k n
  | .sym k j, v => v = .int k (Val.val j)
  | .ext j, v => v = .slice (some ⟨Val.xb j, Val.xo j, none⟩) (Val.xn j) (Val.xc j) ∧ Val.xn j ≤ Val.xc j ∧ c.frz (Val.xb j) ∧ w.heap[Val.xb j]? = some (Val.xobj j)
  | .str s, v => ∃ x : ByteArray, v = .string x ∧ x.data.toList.map (·.toNat) = s
  | .nilp, v => v = .pointer none
  | .ptr o off, v => ∃ b base, c.loc o = some (b, base) ∧ v = .pointer (some ⟨b, base + off, none⟩)
  | .ref cs, v => ∃ b off, v = .pointer (some ⟨b, off, none⟩) ∧ c.frz b ∧ crelm c w cs b off
  | .nilsl, v => v = .slice none 0 0
  | .sl o off len cap sz, v => ∃ b base cp, c.loc o = some (b, base) ∧ v = .slice (some ⟨b, base + off, none⟩) len cp ∧ len ≤ cp ∧ (∀ x, cap = some x → cp = x) ∧
      ∃ ty n, w.shape? b = some (ty, n) ∧ base + off + cp * sz ≤ n
  | .esl, v => ∃ a cp, v = .slice (some a) 0 cp
  | .fsl len full cs, v => ∃ b off cp, v = .slice (some ⟨b, off, none⟩) len cp ∧ len ≤ cp ∧ (full = true → cp = len) ∧ c.frz b ∧ crelm c w cs b off
  | .nilmap, v => v = .map none
  | .map o, v => ∃ b, c.loc o = some (b, 0) ∧ v = .map (some b)
  | .func f x y, v => ∃ A B, v = .func (.func f) A B ∧ crels c w x A.toList ∧ crels c w y B.toList
  | .yld l, v => ∃ b, c.loc l = some (b, 0) ∧ v = .func (.yield b) #[] #[]
  | .nilfunc, v => v = .nilFunc
  | .iface t x, v => ∃ y, v = .iface t y ∧ crel c w x y
  | .nilif, v => v = .nilIface
  | .agg cs, v => ∃ A, v = .agg A ∧ crels c w cs A.toList
  | .tup cs, v => ∃ A, v = .tuple A ∧ crels c w cs A.toList
def crels (c : Cx) (w : World) : List AV → List Value → Prop
  | [], vs => vs = []
  | a :: x, vs => ∃ v y, vs = v :: y ∧ crel c w a v ∧ crels c w x y
def crelm (c : Cx) (w : World) : List AV → Nat → Nat → Prop
  | [], _, _ => True
  | a :: x, b, off => (∃ v, w.cell? ⟨b, off, none⟩ = some v ∧ crel c w a v) ∧ crelm c w x b (off + 1)
end

structure Mono (c : Cx) (w : World) (c' : Cx) (w' : World) : Prop where
  loc : ∀ o x, c.loc o = some x → c'.loc o = some x
  frz : ∀ b, c.frz b → c'.frz b
  same : ∀ b, c.frz b → w'.heap[b]? = w.heap[b]?
  shape : ∀ b s, w.shape? b = some s → w'.shape? b = some s

theorem Mono.refl (c : Cx) (w : World) : Mono c w c w := ⟨fun _ _ h => h, fun _ h => h, fun _ _ => rfl, fun _ _ h => h⟩
theorem Mono.trans {c c' c'' : Cx} {w w' w'' : World} (h : Mono c w c' w') (k : Mono c' w' c'' w'') : Mono c w c'' w'' :=
  ⟨fun o x e => k.loc o x (h.loc o x e), fun b e => k.frz b (h.frz b e), fun b e => (k.same b (h.frz b e)).trans (h.same b e), fun b s e => k.shape b s (h.shape b s e)⟩

theorem Mono.cell {c c' : Cx} {w w' : World} (h : Mono c w c' w') {b off : Nat} (hb : c.frz b) : w'.cell? ⟨b, off, none⟩ = w.cell? ⟨b, off, none⟩ := by
  simp only [World.cell?, h.same b hb]

mutual
theorem crel_mono {c c' : Cx} {w w' : World} (m : Mono c w c' w') : ∀ (a : AV) (v : Value), crel c w a v → crel c' w' a v
  | .undef, _ => fun _ => by simp [crel]
  | .bool _, _ => fun h => by simpa only [crel] using h
  | .int _ _, _ => fun h => by simpa only [crel] using h
  | .sym _ _, _ => fun h => by simpa only [crel] using h
  | .ext j, _ => fun h => by
    simp only [crel] at h ⊢
    exact ⟨h.1, h.2.1, m.frz _ h.2.2.1, (m.same _ h.2.2.1).trans h.2.2.2⟩
  | .str _, _ => fun h => by simpa only [crel] using h
  | .nilp, _ => fun h => by simpa only [crel] using h
  | .ptr o off, v => fun h => by
    simp only [crel] at h ⊢
    obtain ⟨b, base, h1, h2⟩ := h
    exact ⟨b, base, m.loc _ _ h1, h2⟩
  | .ref cs, v => fun h => by
    simp only [crel] at h ⊢
    obtain ⟨b, off, h1, h2, h3⟩ := h
    exact ⟨b, off, h1, m.frz _ h2, crelm_mono m cs b off (fun _ => m.cell h2) h3⟩
  | .nilsl, _ => fun h => by simpa only [crel] using h
  | .sl o off len cap sz, v => fun h => by
    simp only [crel] at h ⊢
    obtain ⟨b, base, cp, h1, h2, h3, h4, ty, n, h5, h6⟩ := h
    exact ⟨b, base, cp, m.loc _ _ h1, h2, h3, h4, ty, n, m.shape _ _ h5, h6⟩
  | .esl, _ => fun h => by simpa only [crel] using h
  | .fsl len full cs, v => fun h => by
    simp only [crel] at h ⊢
    obtain ⟨b, off, cp, h1, h2, h3, h4, h5⟩ := h
    exact ⟨b, off, cp, h1, h2, h3, m.frz _ h4, crelm_mono m cs b off (fun _ => m.cell h4) h5⟩
  | .nilmap, _ => fun h => by simpa only [crel] using h
  | .map o, v => fun h => by
    simp only [crel] at h ⊢
    obtain ⟨b, h1, h2⟩ := h
    exact ⟨b, m.loc _ _ h1, h2⟩
  | .func f x y, v => fun h => by
    simp only [crel] at h ⊢
    obtain ⟨A, B, h1, h2, h3⟩ := h
    exact ⟨A, B, h1, crels_mono m x _ h2, crels_mono m y _ h3⟩
  | .yld l, v => fun h => by
    simp only [crel] at h ⊢
    obtain ⟨b, h1, h2⟩ := h
    exact ⟨b, m.loc _ _ h1, h2⟩
  | .nilfunc, _ => fun h => by simpa only [crel] using h
  | .iface t x, v => fun h => by
    simp only [crel] at h ⊢
    obtain ⟨y, h1, h2⟩ := h
    exact ⟨y, h1, crel_mono m x y h2⟩
  | .nilif, _ => fun h => by simpa only [crel] using h
  | .agg cs, v => fun h => by
    simp only [crel] at h ⊢
    obtain ⟨A, h1, h2⟩ := h
    exact ⟨A, h1, crels_mono m cs _ h2⟩
  | .tup cs, v => fun h => by
    simp only [crel] at h ⊢
    obtain ⟨A, h1, h2⟩ := h
    exact ⟨A, h1, crels_mono m cs _ h2⟩
theorem crels_mono {c c' : Cx} {w w' : World} (m : Mono c w c' w') : ∀ (a : List AV) (v : List Value), crels c w a v → crels c' w' a v
  | [], _ => fun h => by simpa only [crels] using h
  | a :: x, vs => fun h => by
    simp only [crels] at h ⊢
    obtain ⟨v, y, h1, h2, h3⟩ := h
    exact ⟨v, y, h1, crel_mono m a v h2, crels_mono m x y h3⟩
theorem crelm_mono {c c' : Cx} {w w' : World} (m : Mono c w c' w') : ∀ (a : List AV) (b off : Nat), (∀ off, w'.cell? ⟨b, off, none⟩ = w.cell? ⟨b, off, none⟩) → crelm c w a b off → crelm c' w' a b off
  | [], _, _ => fun _ _ => by simp [crelm]
  | a :: x, b, off => fun hb h => by
    simp only [crelm] at h ⊢
    obtain ⟨⟨v, h1, h2⟩, h3⟩ := h
    exact ⟨⟨v, (hb off).trans h1, crel_mono m a v h2⟩, crelm_mono m x b (off + 1) hb h3⟩
end

/-! lists of related values -/
theorem crels_length {c : Cx} {w : World} : ∀ {a : List AV} {v : List Value}, crels c w a v → v.length = a.length
  | [], _, h => by simp only [crels] at h; subst h; rfl
  | _ :: _, _, h => by
    simp only [crels] at h
    obtain ⟨v, y, rfl, _, h3⟩ := h
    simp [crels_length h3]
theorem crels_append {c : Cx} {w : World} : ∀ {a a' : List AV} {v v' : List Value}, crels c w a v → crels c w a' v' → crels c w (a ++ a') (v ++ v')
  | [], _, _, _, h, h' => by simp only [crels] at h; subst h; exact h'
  | x :: a, a', _, v', h, h' => by
    simp only [crels] at h
    obtain ⟨v, y, rfl, h2, h3⟩ := h
    simp only [List.cons_append, crels]
    exact ⟨v, y ++ v', rfl, h2, crels_append h3 h'⟩
theorem crels_take {c : Cx} {w : World} : ∀ (n : Nat) {a : List AV} {v : List Value}, crels c w a v → crels c w (a.take n) (v.take n)
  | 0, _, _, _ => by simp [crels]
  | n + 1, [], _, h => by simp only [crels] at h; subst h; simp [crels]
  | n + 1, x :: a, _, h => by
    simp only [crels] at h
    obtain ⟨v, y, rfl, h2, h3⟩ := h
    simp only [List.take_succ_cons, crels]
    exact ⟨v, y.take n, rfl, h2, crels_take n h3⟩
theorem crels_drop {c : Cx} {w : World} : ∀ (n : Nat) {a : List AV} {v : List Value}, crels c w a v → crels c w (a.drop n) (v.drop n)
  | 0, _, _, h => by simpa using h
  | n + 1, [], _, h => by simp only [crels] at h; subst h; simp [crels]
  | n + 1, x :: a, _, h => by
    simp only [crels] at h
    obtain ⟨v, y, rfl, h2, h3⟩ := h
    simpa using crels_drop n h3
theorem crels_get {c : Cx} {w : World} : ∀ (n : Nat) {a : List AV} {v : List Value} {x : AV}, crels c w a v → a[n]? = some x → ∃ y, v[n]? = some y ∧ crel c w x y
  | 0, x :: a, _, z, h, e => by
    simp only [crels] at h
    obtain ⟨v, y, rfl, h2, h3⟩ := h
    simp only [List.getElem?_cons_zero, Option.some.injEq] at e
    subst e
    exact ⟨v, rfl, h2⟩
  | n + 1, x :: a, _, z, h, e => by
    simp only [crels] at h
    obtain ⟨v, y, rfl, h2, h3⟩ := h
    simp only [List.getElem?_cons_succ] at e ⊢
    exact crels_get n h3 e
  | n, [], _, z, h, e => by simp at e
theorem crels_nil {c : Cx} {w : World} : crels c w [] [] := by simp [crels]
theorem crels_one {c : Cx} {w : World} {a : AV} {v : Value} (h : crel c w a v) : crels c w [a] [v] := by
  simp only [crels]; exact ⟨v, [], rfl, h, rfl⟩
theorem crels_cons {c : Cx} {w : World} {a : AV} {v : Value} {x : List AV} {y : List Value} (h : crel c w a v) (h' : crels c w x y) : crels c w (a :: x) (v :: y) := by
  simp only [crels]; exact ⟨v, y, rfl, h, h'⟩
theorem crels_of_one {c : Cx} {w : World} {a : AV} {vs : List Value} (h : crels c w [a] vs) : ∃ v, vs = [v] ∧ crel c w a v := by
  simp only [crels] at h
  obtain ⟨v, y, rfl, h2, rfl⟩ := h
  exact ⟨v, rfl, h2⟩
theorem crel_undef {c : Cx} {w : World} (v : Value) : crel c w .undef v := by simp [crel]

/-! rows of cells -/
theorem crelm_drop {c : Cx} {w : World} : ∀ (n : Nat) {a : List AV} {b off : Nat}, crelm c w a b off → crelm c w (a.drop n) b (off + n)
  | 0, _, _, _, h => by simpa using h
  | n + 1, [], _, _, _ => by simp [crelm]
  | n + 1, x :: a, b, off, h => by
    simp only [crelm] at h
    have := crelm_drop n h.2
    rw [show off + 1 + n = off + (n + 1) from by omega] at this
    simpa using this
theorem crelm_take {c : Cx} {w : World} : ∀ (n : Nat) {a : List AV} {b off : Nat}, crelm c w a b off → crelm c w (a.take n) b off
  | 0, _, _, _, _ => by simp [crelm]
  | n + 1, [], _, _, _ => by simp [crelm]
  | n + 1, x :: a, b, off, h => by
    simp only [crelm] at h
    simp only [List.take_succ_cons, crelm]
    exact ⟨h.1, crelm_take n h.2⟩
/-- the cells behind a row -/
theorem crelm_vals {c : Cx} {w : World} : ∀ {a : List AV} {b off : Nat}, crelm c w a b off →
    ∃ vs : List Value, crels c w a vs ∧ ∀ j v, vs[j]? = some v → w.cell? ⟨b, off + j, none⟩ = some v
  | [], _, _, _ => ⟨[], crels_nil, by simp⟩
  | x :: a, b, off, h => by
    simp only [crelm] at h
    obtain ⟨⟨v, h1, h2⟩, h3⟩ := h
    obtain ⟨vs, h4, h5⟩ := crelm_vals h3
    refine ⟨v :: vs, crels_cons h2 h4, fun j u hu => ?_⟩
    cases j with
    | zero => simp at hu; subst hu; exact h1
    | succ j =>
      simp at hu
      have := h5 j u hu
      rwa [show off + 1 + j = off + (j + 1) from by omega] at this
theorem crelm_of {c : Cx} {w : World} : ∀ {a : List AV} {vs : List Value} {b off : Nat}, crels c w a vs → (∀ j v, vs[j]? = some v → w.cell? ⟨b, off + j, none⟩ = some v) → crelm c w a b off
  | [], _, _, _, _, _ => by simp [crelm]
  | x :: a, _, b, off, h, hc => by
    simp only [crels] at h
    obtain ⟨v, y, rfl, h2, h3⟩ := h
    simp only [crelm]
    refine ⟨⟨v, by simpa using hc 0 v rfl, h2⟩, crelm_of h3 fun j u hu => ?_⟩
    have := hc (j + 1) u (by simpa using hu)
    rwa [show off + (j + 1) = off + 1 + j from by omega] at this
theorem crelm_get {c : Cx} {w : World} {a : List AV} {b off : Nat} (h : crelm c w a b off) {j : Nat} (hj : j < a.length) : (w.cell? ⟨b, off + j, none⟩).isSome = true := by
  obtain ⟨vs, h1, h2⟩ := crelm_vals h
  have hl := crels_length h1
  have : vs[j]? = some vs[j] := List.getElem?_eq_getElem (by omega)
  rw [h2 j _ this]; rfl

mutual
theorem toAV_rel (c : Cx) (w : World) : ∀ v : Value, crel c w (toAV v) v
  | .bool _ => by simp [toAV, crel]
  | .int _ _ => by simp [toAV, crel]
  | .float _ _ => by simp [toAV, crel]
  | .complex _ _ _ => by simp [toAV, crel]
  | .string s => by simp [toAV, crel]
  | .pointer none => by simp [toAV, crel]
  | .pointer (some _) => by simp [toAV, crel]
  | .slice none 0 0 => by simp [toAV, crel]
  | .slice none 0 (_ + 1) => by simp [toAV, crel]
  | .slice none (_ + 1) _ => by simp [toAV, crel]
  | .slice (some _) _ _ => by simp [toAV, crel]
  | .map none => by simp [toAV, crel]
  | .map (some _) => by simp [toAV, crel]
  | .chan _ => by simp [toAV, crel]
  | .func fn a b => by
    cases fn with
    | func f =>
      simp only [toAV, crel]
      exact ⟨a, b, rfl, toAVs_rel c w a.toList, toAVs_rel c w b.toList⟩
    | _ => simp [toAV, crel]
  | .nilFunc => by simp [toAV, crel]
  | .iface _ _ => by simp [toAV, crel]
  | .nilIface => by simp [toAV, crel]
  | .agg cs => by
    simp only [toAV, crel]
    exact ⟨cs, rfl, toAVs_rel c w cs.toList⟩
  | .tuple vs => by simp [toAV, crel]
theorem toAVs_rel (c : Cx) (w : World) : ∀ l : List Value, crels c w (toAVs l) l
  | [] => by simp [toAVs, crels]
  | v :: r => by
    simp only [toAVs]
    exact crels_cons (toAV_rel c w v) (toAVs_rel c w r)
end
end Rfx
