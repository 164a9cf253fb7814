/- Drawn regions: all of them, in any order. -/
import Derived.Test.YtnjpcjnkhelfoabGreatDoorRfxDraw2
set_option linter.unusedSectionVars false
set_option linter.unusedVariables false
set_option linter.unusedSimpArgs false
set_option linter.unnecessarySimpa false
namespace Rfx
open Go
variable [Val]

section
variable {P : Program} {E : Env} {call : Call} {d : Dw} {ops : Array Oper} {md : Region.Mode}

/-! ### something is always ready -/
theorem topo_ready {listed : Array Bool} (hls : listed.size = ops.size) : ∀ {L seen : List Nat}, topoOk md ops.toList L seen = true → (∀ k ∈ seen, k < ops.size → listed.getD k true = true) → (∀ k ∈ seen, k < ops.size) →
    (∃ k ∈ L, k < ops.size ∧ listed.getD k true = false) → Region.ready md ops listed ≠ []
  | [], _, _, _, _, ⟨k, hk, _⟩ => by cases hk
  | i :: L, seen, ht, hs, hs2, ⟨k, hk, hkl, hku⟩ => by
    simp only [topoOk, Bool.and_eq_true] at ht
    obtain ⟨h1, h2⟩ := ht
    cases ho : ops.toList[i]? with
    | none => rw [ho] at h1; cases h1
    | some o =>
      rw [ho] at h1
      simp only [List.all_eq_true, Bool.or_eq_true, Bool.not_eq_true', List.contains_eq_mem, decide_eq_true_eq] at h1
      have hi : i < ops.size := by
        have := (List.getElem?_eq_some_iff.1 ho).1
        simpa using this
      cases hli : listed.getD i true with
      | true =>
        refine topo_ready hls h2 (fun j hj hjl => ?_) (fun j hj => ?_) ?_
        · rcases List.mem_cons.1 hj with rfl | hj
          · exact hli
          · exact hs j hj hjl
        · rcases List.mem_cons.1 hj with rfl | hj
          · exact hi
          · exact hs2 j hj
        · rcases List.mem_cons.1 hk with rfl | hk
          · rw [hli] at hku; cases hku
          · exact ⟨k, hk, hkl, hku⟩
      | false =>
        have : i ∈ Region.ready md ops listed := mem_ready.2 ⟨hli, o, by simpa using ho, fun e he hb => by
          have he' : e ∈ o.after.toList := by simpa using he
          rcases h1 e he' with h | h
          · rw [hb] at h; cases h
          · have := hs _ h (hs2 _ h)
            have hlt : e.on < listed.size := by rw [hls]; exact hs2 _ h
            simp only [Array.getD_eq_getD_getElem?, Array.getElem?_eq_getElem hlt, Option.getD_some] at this ⊢
            exact this⟩
        intro hnil
        rw [hnil] at this; cases this

/-! ### what stands before -/
theorem before_fold : ∀ {l : List Edge} {s x : Nat}, (l.foldl (fun s e => bif Region.binds .any e then s ||| 2 ^ e.on ||| d.before e.on else s) s).testBit x = true →
    s.testBit x = true ∨ ∃ e ∈ l, Region.binds .any e = true ∧ (x = e.on ∨ d.bit e.on x = true)
  | [], _, _, h => .inl h
  | e :: l, s, x, h => by
    simp only [List.foldl_cons] at h
    rcases before_fold h with h | ⟨e', he', hb, hh⟩
    · cases hb : Region.binds .any e with
      | false => rw [hb] at h; exact .inl h
      | true =>
        rw [hb] at h
        simp only [cond_true, Nat.testBit_or, Bool.or_eq_true] at h
        rcases h with (h | h) | h
        · exact .inl h
        · refine .inr ⟨e, List.mem_cons_self, hb, .inl ?_⟩
          rw [Nat.testBit_two_pow] at h
          simp only [decide_eq_true_eq] at h
          exact h.symm
        · exact .inr ⟨e, List.mem_cons_self, hb, .inr h⟩
    · exact .inr ⟨e', List.mem_cons_of_mem _ he', hb, hh⟩

theorem bits_of {x y k : Nat} (h : bitsIn x y = true) (hx : x.testBit k = true) : y.testBit k = true := by
  have e := beq_t h
  have : (Nat.land x y).testBit k = true := by rw [e]; exact hx
  have h2 : (x &&& y).testBit k = true := this
  rw [Nat.testBit_and] at h2
  simp only [Bool.and_eq_true] at h2
  exact h2.2

theorem bef_of : ∀ {l : List Oper} {j : Nat}, befOk d l j = true → ∀ {i o}, l[i]? = some o → bitsIn (d.before (j + i)) (beforeOne d o) = true
  | [], _, _, i, o, h => by simp at h
  | p :: l, j, hb, i, o, h => by
    simp only [befOk, Bool.and_eq_true] at hb
    cases i with
    | zero => simp only [List.getElem?_cons_zero, Option.some.injEq] at h; subst h; exact hb.1
    | succ i =>
      simp only [List.getElem?_cons_succ] at h
      have := bef_of hb.2 h
      rwa [show j + 1 + i = j + (i + 1) by omega] at this

theorem bit_of (hb : befOk d ops.toList 0 = true) {i x : Nat} {o : Oper} (ho : ops[i]? = some o) (h : d.bit i x = true) : ∃ e ∈ o.after, Region.binds .any e = true ∧ (x = e.on ∨ d.bit e.on x = true) := by
  have h1 := bef_of hb (i := i) (o := o) (by simpa using ho)
  rw [Nat.zero_add] at h1
  have h2 := bits_of h1 h
  unfold beforeOne at h2
  rcases before_fold h2 with h | ⟨e, he, hb, hh⟩
  · simp at h
  · exact ⟨e, by simpa using he, hb, hh⟩

theorem binds_any {e : Edge} (h : Region.binds .any e = true) : Region.binds md e = true := by
  unfold Region.binds at h ⊢
  cases hg : e.ground <;> rw [hg] at h <;> first | rfl | (cases h)

variable {base : Nat} {c0 : Cx} {h0 : AH} {w0 : World} {e : AE} {fr' : Fr} {h' : AH}

theorem covers_of {n : Nat} {l : List Nat} (h : coversOk n l = true) {k : Nat} (hk : k < n) : k ∈ l := by
  simp only [coversOk, List.all_eq_true, List.mem_range, List.contains_eq_mem, decide_eq_true_eq] at h
  exact h k hk

theorem draw_any (T : TabOK P E) (hc : CallOK P call) (hmd : modeOk md ops = true) (hbf : befOk d ops.toList 0 = true) (nn : Nat) :
    ∀ (m : Nat) (l : List Nat) (listed : Array Bool) (s : DS) (c : Cx) (w : World) (a : Act), l.length = m → l.Pairwise (fun x y => pairOk d ops.toList x y = true) → listed.size = ops.size →
      (∀ k, k < ops.size → (listed.getD k true = true ↔ k ∉ l)) → (∀ k, k < ops.size → k ∉ l → ∀ x, d.bit k x = true → x ∉ l) →
      DInv c0 h0 w0 d base ops.size c w s l → InvW d ops.toList s l → s.ws = [] → FRel (c.keep c0.rsv) (allH base ops.size s) w s.fr a →
      dRun E call d ops.toList base ops.size l s = some (e, fr', h') → wpAnyIn (FR none) nn P md ops (EPost c0 h0 w0 e fr' h') m listed a w := by
  intro m
  induction m with
  | zero =>
    intro l listed s c w a hlen hpw hls hl hcl I hW hws f hr
    have : l = [] := List.length_eq_zero_iff.1 hlen
    subst this
    rw [dRun_nil] at hr
    simp only [Option.some.injEq, Prod.mk.injEq] at hr
    obtain ⟨rfl, rfl, rfl⟩ := hr
    refine ⟨?_, c.keep c0.rsv, I.step, f, rfl⟩
    cases hrd : Region.ready md ops listed with
    | nil => rfl
    | cons i r =>
      have hi : i ∈ Region.ready md ops listed := by rw [hrd]; exact List.mem_cons_self
      obtain ⟨h1, o, ho, _⟩ := mem_ready.1 hi
      have := (hl i (Array.getElem?_eq_some_iff.1 ho).1).2 (by simp)
      rw [this] at h1; cases h1
  | succ m ih =>
    intro l listed s c w a hlen hpw hls hl hcl I hW hws f hr
    have hne : Region.ready md ops listed ≠ [] := by
      obtain ⟨k, l', rfl⟩ : ∃ k l', l = k :: l' := by
        cases l with
        | nil => cases hlen
        | cons k l' => exact ⟨k, l', rfl⟩
      have hk := I.lt k List.mem_cons_self
      simp only [modeOk, Bool.and_eq_true] at hmd
      refine topo_ready hls hmd.1 (fun k hk => by cases hk) (fun k hk => by cases hk) ⟨k, covers_of hmd.2 hk, hk, ?_⟩
      cases hh : listed.getD k true with
      | false => rfl
      | true => exact absurd List.mem_cons_self ((hl k hk).1 hh)
    refine ⟨fun h => absurd h hne, fun i hi => ?_⟩
    obtain ⟨hiu, o, ho, hedge⟩ := mem_ready.1 hi
    have hil : i ∈ l := by
      rcases Classical.em (i ∈ l) with h | h
      · exact h
      · rw [(hl i (Array.getElem?_eq_some_iff.1 ho).1).2 h] at hiu; cases hiu
    have hin := I.lt i hil
    -- nothing that is still to be done stands before it
    have hbit : ∀ k ∈ l, d.bit i k = false := fun k hk => by
      cases hb : d.bit i k with
      | false => rfl
      | true =>
        exfalso
        obtain ⟨ed, he, hbi, hx⟩ := bit_of hbf ho hb
        have hlst := hedge ed he (binds_any hbi)
        have hlt : ed.on < ops.size := by
          rcases Nat.lt_or_ge ed.on listed.size with h | h
          · rw [← hls]; exact h
          · simp [Array.getElem?_eq_none h] at hlst
        have hon : ed.on ∉ l := (hl _ hlt).1 (by
          have hlt' : ed.on < listed.size := by rw [hls]; exact hlt
          simp only [Array.getD_eq_getD_getElem?, Array.getElem?_eq_getElem hlt', Option.getD_some] at hlst ⊢
          exact hlst)
        rcases hx with rfl | hx
        · exact hon hk
        · exact hcl _ hlt hon k hx hk
    obtain ⟨pre, post, rfl⟩ := List.append_of_mem hil
    have hr' := bubble hpw (fun x hx => hbit x (List.mem_append_left _ hx)) hW hr
    have hnd : ∀ k ∈ pre ++ post, k ≠ i := by
      rintro k hk rfl
      have hp := List.pairwise_append.1 hpw
      rcases List.mem_append.1 hk with h | h
      · obtain ⟨_, _, _, _, hxy, _⟩ := pairOk_spec (hp.2.2 k h k List.mem_cons_self)
        exact hxy rfl
      · obtain ⟨_, _, _, _, hxy, _⟩ := pairOk_spec ((List.pairwise_cons.1 hp.2.1).1 k h)
        exact hxy rfl
    have hsub : ∀ k ∈ pre ++ post, k ∈ pre ++ i :: post := fun k hk => by
      rcases List.mem_append.1 hk with h | h
      · exact List.mem_append_left _ h
      · exact List.mem_append_right _ (List.mem_cons_of_mem _ h)
    have hsl : List.Sublist (pre ++ post) (pre ++ i :: post) := List.Sublist.append (List.Sublist.refl _) (List.sublist_cons_self _ _)
    have hmem : ∀ k, k ∈ pre ++ i :: post ↔ k = i ∨ k ∈ pre ++ post := fun k => by
      simp only [List.mem_append, List.mem_cons]
      constructor
      · rintro (h | h | h)
        · exact .inr (.inl h)
        · exact .inl h
        · exact .inr (.inr h)
      · rintro (h | h | h)
        · exact .inr (.inl h)
        · exact .inl h
        · exact .inr (.inr h)
    refine draw_one T hc I hsub hil (fun h => hnd i h rfl) hbit f hr' nn _ fun c' w' s1 a' h1 I' f' hr1 => ?_
    obtain ⟨o', ho', hws1, hpd⟩ := dOne_shape h1
    have hoo : ops.toList[i]? = some o := by simpa using ho
    rw [hoo] at ho'
    cases ho'
    refine ih (pre ++ post) (listed.setIfInBounds i true) ⟨[], s1.pend, s1.done, s1.fr, s1.h⟩ c' w' a' ?_ (hpw.sublist hsl) (by simpa using hls) ?_ ?_ ?_ ?_ rfl f' ?_
    · simp only [List.length_append, List.length_cons] at hlen ⊢; omega
    · intro k hk
      by_cases e : i = k
      · subst e
        constructor
        · intro _ h; exact hnd i h rfl
        · intro _; simp [Array.getElem?_setIfInBounds, hls, hk]
      · rw [getD_set_ne true e, hl k hk, hmem]
        constructor
        · exact fun h h2 => h (.inr h2)
        · rintro h (rfl | h2)
          · exact e rfl
          · exact h h2
    · intro k hk hkl x hx hxl
      by_cases e : k = i
      · subst e
        have := hbit x (hsub x hxl)
        rw [hx] at this; cases this
      · exact hcl k hk (fun h => ((hmem k).1 h).elim e hkl) x hx (hsub x hxl)
    · exact ⟨I'.step, I'.free, I'.fresh0, I'.lt, I'.lo, I'.hi, I'.ndone, I'.npend, I'.out⟩
    · intro z hz
      refine ⟨fun k r v hm => (by cases hm), fun q hq hlax hk => ⟨fun k hkp => ?_, fun k r v hm => (by cases hm)⟩⟩
      rcases hpd k hkp with h | ⟨rfl, hka⟩
      · exact ((hW z (hsub z hz)).2 q hq hlax hk).1 k h
      · -- the operation just done makes memory
        have hp := List.pairwise_append.1 hpw
        rcases List.mem_append.1 hz with h | h
        · obtain ⟨p1, p2, g1, g2, _, _, hh⟩ := pairOk_spec (hp.2.2 z h k List.mem_cons_self)
          rw [hq] at g1; cases g1
          rw [hoo] at g2; cases g2
          rcases hh with hh | ⟨_, _, hh⟩
          · rw [hbit z (hsub z hz)] at hh; cases hh
          · rw [hk, hka, hlax] at hh; cases hh
        · obtain ⟨p1, p2, g1, g2, _, _, hh⟩ := pairOk_spec ((List.pairwise_cons.1 hp.2.1).1 z h)
          rw [hoo] at g1; cases g1
          rw [hq] at g2; cases g2
          rcases hh with hh | ⟨_, _, hh⟩
          · exact hh
          · rw [hk, hka, hlax] at hh; cases hh
    · exact dRun_sub (s' := s1) ⟨fun x hx => (by cases hx), rfl, rfl, rfl, rfl⟩ hr1

/-- a region that draws its order -/
theorem drawRun_ok (T : TabOK P E) (hc : CallOK P call) (id : Nat) (ops : Array Oper) (d : Dw) (c : Cx) (h : AH) (w : World) (fr : Fr) (a : Act) (e : AE) (fr' : Fr) (h' : AH) (hk : drawOk ops d = true)
    (hr : drawRun E call ops d fr h = some (e, fr', h')) (r : HRel c h w) (f : FRel c h w fr a) (n : Nat) : (Code.region id ops true).wpIn (FR none) n P (EPost c h w e fr' h') a w := by
  simp only [drawOk, Bool.and_eq_true] at hk
  obtain ⟨⟨⟨⟨⟨⟨⟨hk1, hk2⟩, hk3⟩, hk4⟩, hk8⟩, hk5⟩, hk6⟩, hk7⟩ := hk
  have hpw := pairs_of hk1
  have hlt : ∀ k ∈ d.ord, k < ops.size := fun k hk => by
    rw [List.all_eq_true] at hk8
    exact blt_t (hk8 k hk)
  have hsz := ble_t hk4
  let w1 : World := { w with drawn := w.drawn + 1 }
  let s0 : DS := ⟨[], .nil, 0, fr, ⟨h.next + ops.size, h.bs⟩⟩
  have S : Step c h w c (allH h.next ops.size s0) w1 := (Step.raise r (h.next + ops.size) (by omega)).trans (Step.draw (r.raise _ (by omega)) rfl ⟨rfl, rfl⟩)
  have I : DInv c h w d h.next ops.size c w1 s0 d.ord :=
    ⟨S, fun k hk => (r.fresh _ (by omega)).1.1, fun o ho => (r.fresh o ho).1.2, hlt, Nat.le_refl _, by show h.next + ops.size ≤ h.next + 4294967296; omega, fun k _ => by simp [s0], fun k _ => rfl, fun k _ _ h => absurd rfl h⟩
  refine wpIn_region_draw fun t => ?_
  have any : ∀ md, modeOk md ops = true → ∀ t, wpOpsIn (FR none) n P ops (EPost c h w e fr' h') (Region.linearise md ops t) a w1 := by
    intro md hmd t
    refine wpAnyIn_sound ops.size t _ a _ ?_
    have hnd : d.ord.Nodup := hpw.imp fun {x y} hp => (pairOk_spec hp).choose_spec.choose_spec.2.2.1
    have hlen : d.ord.length = ops.size := by
      have h1 : d.ord.Perm (List.range ops.size) := (List.perm_ext_iff_of_nodup hnd List.nodup_range).2 fun x => by
        rw [List.mem_range]
        exact ⟨hlt x, fun hx => covers_of hk2 hx⟩
      simpa using h1.length_eq
    refine draw_any T hc hmd hk3 n ops.size d.ord _ s0 c w1 a hlen hpw (by simp) ?_ ?_ I ?_ rfl (f.step r S) hr
    · intro k hk
      have : k ∈ d.ord := covers_of hk2 hk
      simp [hk, this]
    · intro k hk hkl
      exact absurd (covers_of hk2 hk) hkl
    · intro z _
      exact ⟨fun k r v hm => (by cases hm), fun q _ _ _ => ⟨fun k hk => absurd rfl hk, fun k r v hm => (by cases hm)⟩⟩
  unfold Region.schedule
  split
  · exact any _ hk5 _
  · split
    · exact any _ hk6 _
    · exact any _ hk7 _
end
end Rfx
