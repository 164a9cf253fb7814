/- Two functions without a body: a byte's place in a string; the order of two strings. -/
import Derived.Test.YtnjpcjnkhelfoabGreatDoorRfxTab
import Derived.Lib.Bytealg
import Derived.Conc.DeferLaws
set_option linter.unusedSectionVars false
set_option linter.unusedVariables false
set_option linter.unusedSimpArgs false
set_option linter.unnecessarySimpa false
namespace Rfx
open Go Go.Lib
variable [Val]

def idxByte (s : List Nat) (c : Nat) (i : Nat) : Option Nat :=
  match s with
  | [] => none
  | a :: r => bif Nat.beq a c then some i else idxByte r c (i + 1)

def cmpStr : List Nat → List Nat → Int
  | [], [] => 0
  | [], _ => -1
  | _, [] => 1
  | a :: x, b :: y => bif Nat.beq a b then cmpStr x y else bif Nat.blt a b then -1 else 1

def prims (fi fc f : Nat) (a : List AV) : Option AV :=
  match a with
  | [.str s, .int .u8 c] => bif Nat.beq f fi && Nat.blt c.toNat 256 then some (.int .i64 (match idxByte s c.toNat 0 with | some i => (i : Int) | none => -1)) else none
  | [.str s, .str t] => bif Nat.beq f fc then some (.int .i64 (cmpStr s t)) else none
  | _ => none

theorem idx_ok (c : Nat) (hc : c < 256) : ∀ (l : List UInt8) (i : Nat), (match idxByte (l.map (·.toNat)) c i with | some j => (j : Int) | none => -1) = if indexByte l c.toUInt8 = -1 then -1 else indexByte l c.toUInt8 + i
  | [], i => by simp [idxByte, indexByte]
  | b :: l, i => by
    have hb : (b == c.toUInt8) = Nat.beq b.toNat c := by
      rw [Bool.eq_iff_iff, beq_iff_eq, Nat.beq_eq]
      constructor
      · rintro rfl; simp; omega
      · intro h; apply UInt8.toNat_inj.1; rw [h]; simp; omega
    simp only [List.map_cons, idxByte, indexByte, hb]
    cases hh : Nat.beq b.toNat c with
    | true => simp
    | false =>
      simp only [cond_false, Bool.false_eq_true, if_false]
      rw [idx_ok c hc l (i + 1)]
      have hge := indexByte_ge l c.toUInt8
      by_cases e : indexByte l c.toUInt8 = -1
      · simp [e]
      · simp only [e, if_false, beq_iff_eq]
        rw [if_neg (by omega)]
        omega

theorem cmp_ok : ∀ (a b : List UInt8), cmpStr (a.map (·.toNat)) (b.map (·.toNat)) = compareBytes a b
  | [], [] => rfl
  | [], _ :: _ => rfl
  | _ :: _, [] => rfl
  | x :: a, y :: b => by
    simp only [List.map_cons, cmpStr, compareBytes]
    rw [cmp_ok a b]
    by_cases h1 : x = y
    · subst h1
      simp
    · have hne : Nat.beq x.toNat y.toNat = false := by
        cases hh : Nat.beq x.toNat y.toNat with
        | false => rfl
        | true => exact absurd (UInt8.toNat_inj.1 (beq_t hh)) h1
      rw [hne]
      simp only [cond_false]
      by_cases h2 : x < y
      · have : Nat.blt x.toNat y.toNat = true := Nat.ble_eq_true_of_le (UInt8.lt_iff_toNat_lt.1 h2)
        rw [this, if_pos h2]; rfl
      · have h3 : y < x := UInt8.lt_of_le_of_ne (UInt8.not_lt.1 h2) (Ne.symm h1)
        have : Nat.blt x.toNat y.toNat = false := by
          cases hh : Nat.blt x.toNat y.toNat with
          | false => rfl
          | true => exact absurd (UInt8.lt_iff_toNat_lt.2 (blt_t hh)) h2
        rw [this, if_neg h2, if_pos h3]; rfl

/-- function f is the entry e -/
structure IsEntry (P : Program) (f : Nat) (e : Array Value → Sem Value) : Prop where
  ex : ∃ fn, P.funcs[f]? = some fn ∧ (fn.name == "runtime.NumGoroutine") = false ∧ fn.body.isNone = true ∧ Extern.findNext fn = none ∧ Extern.find fn = some e

theorem IsEntry.run {P : Program} {f : Nat} {e : Array Value → Sem Value} (h : IsEntry P f e) {A : Array Value} {w : World} {v : Value} (hr : (e A).run P w = .ok v w) : (callFunc f A).run P w = .ok (.value v) w := by
  obtain ⟨fn, h1, h2, h3, h4, h5⟩ := h.ex
  rw [run_callFunc_extern h1 h2 h3 h4 h5, hr]
  rfl

theorem prims_ok {P : Program} {fi fc : Nat} (hi : IsEntry P fi Extern.BytealgIndexByte.indexByte) (hc : IsEntry P fc Extern.BytealgCompare.compare) {f : Nat} {args : List AV} {v : AV} (e : prims fi fc f args = some v)
    (c : Cx) (w : World) (A : Array Value) (hA : crels c w args A.toList) : ∃ cv, (callFunc f A).run P w = .ok (.value cv) w ∧ crel c w v cv := by
  unfold prims at e
  split at e
  · rename_i s n
    obtain ⟨e1, e2⟩ := cond_some e
    simp only [Bool.and_eq_true] at e1
    obtain ⟨h1, h2⟩ := e1
    have h1 := beq_t h1
    have h2 := blt_t h2
    subst h1
    cases e2
    simp only [crels, crel] at hA
    obtain ⟨_, _, hA, ⟨x, rfl, rfl⟩, _, _, rfl, rfl, rfl⟩ := hA
    have : A = #[.string x, .int .u8 n] := by apply Array.toList_inj.1; rw [hA]
    subst this
    refine ⟨_, hi.run (run_indexByteString x n w), ?_⟩
    simp only [crel]
    rw [idx_ok n.toNat h2 x.data.toList 0]
    by_cases h : indexByte x.data.toList n.toNat.toUInt8 = -1
    · simp [h]
    · simp [h]
  · rename_i s t
    obtain ⟨e1, e2⟩ := cond_some e
    have h1 := beq_t e1
    subst h1
    cases e2
    simp only [crels, crel] at hA
    obtain ⟨_, _, hA, ⟨x, rfl, rfl⟩, _, _, rfl, ⟨y, rfl, rfl⟩, rfl⟩ := hA
    have : A = #[.string x, .string y] := by apply Array.toList_inj.1; rw [hA]
    subst this
    refine ⟨_, hc.run (run_compareString x y w), ?_⟩
    simp only [crel]
    rw [cmp_ok]
  · cases e
end Rfx
