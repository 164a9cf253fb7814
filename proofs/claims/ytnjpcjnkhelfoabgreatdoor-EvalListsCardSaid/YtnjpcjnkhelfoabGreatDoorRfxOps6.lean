/- One operation, sixth part: slicing, lengths, append, maps, calls. -/
import Derived.Test.YtnjpcjnkhelfoabGreatDoorRfxOps5
set_option linter.unusedSectionVars false
set_option linter.unusedVariables false
set_option linter.unusedSimpArgs false
set_option linter.unnecessarySimpa false
namespace Rfx
open Go
variable [Val]

section
variable {P : Program} {E : Env} {c : Cx} {h h' : AH} {w : World}

def ORel (c : Cx) (w : World) : Option AV → Option Value → Prop
  | none, none => True
  | some a, some v => crel c w a v
  | _, _ => False

theorem optA_rel {tm : Tr AV} {ρ : Operand → Value} (hρ : ∀ x, crel c w (opnd tm x) (ρ x)) (o : Option Operand) : ORel c w (optA tm o) (o.map ρ) := by
  cases o with
  | none => trivial
  | some x => exact hρ x

theorem run_bound1 {v : Value} {a : AV} {n y : Nat} {code : BoundsCode} (hn : natOf a = some n) (ha : crel c w a v) (hle : n ≤ y) : (Instr.sliceBound v y code).run P w = .ok n w := by
  obtain ⟨k, rfl⟩ := natOf_int hn
  simp only [crel] at ha; subst ha
  simp only [Instr.sliceBound, asIntOf, Sem.run_bind, Sem.run_pure, Result.andThen_ok]
  rw [if_pos ⟨by omega, by omega⟩]
  simp

theorem bounds_ok {b : Bool} {len cap cp l e : Nat} {lo hi : Option AV} {lv hv : Option Value} (hl : ORel c w lo lv) (hh : ORel c w hi hv) (hcap : cap ≤ cp)
    (hb : sliceBounds' len cap lo hi = some (l, e)) : l ≤ e ∧ e ≤ cap ∧ (Instr.sliceBounds b len cp lv hv none).run P w = .ok (l, e, cp) w ∧
      ∀ (m : Nat) (k : IntKind), hv.isSome = true → e ≤ m → m ≤ cp → (Instr.sliceBounds b len cp lv hv (some (.int k m))).run P w = .ok (l, e, m) w := by
  unfold sliceBounds' at hb
  cases h1 : bound1 len hi with
  | none => rw [h1] at hb; simp at hb
  | some hh' =>
    cases h2 : bound1 0 lo with
    | none => rw [h1, h2] at hb; simp at hb
    | some ll =>
      rw [h1, h2] at hb
      dsimp only at hb
      obtain ⟨k1, k2⟩ := cond_some hb
      simp only [Bool.and_eq_true] at k1
      have e1 := ble_t k1.1
      have e2 := ble_t k1.2
      simp only [Option.some.injEq, Prod.mk.injEq] at k2
      obtain ⟨rfl, rfl⟩ := k2
      refine ⟨e2, e1, ?_, fun m k hs hm1 hm2 => ?_⟩
      · cases hi with
        | none =>
          cases hv with
          | some _ => exact hh.elim
          | none =>
            simp only [bound1, Option.some.injEq] at h1
            subst h1
            cases lo with
            | none =>
              cases lv with
              | some _ => exact hl.elim
              | none =>
                simp only [bound1, Option.some.injEq] at h2
                subst h2
                simp [Instr.sliceBounds]
            | some la =>
              cases lv with
              | none => exact hl.elim
              | some lv =>
                simp only [bound1] at h2
                simp [Instr.sliceBounds, run_bound1 (P := P) h2 hl e2]
        | some ha =>
          cases hv with
          | none => exact hh.elim
          | some hv =>
            simp only [bound1] at h1
            have r1 : ∀ code, (Instr.sliceBound hv cp code).run P w = .ok hh' w := fun code => run_bound1 h1 hh (by omega)
            cases lo with
            | none =>
              cases lv with
              | some _ => exact hl.elim
              | none =>
                simp only [bound1, Option.some.injEq] at h2
                subst h2
                simp [Instr.sliceBounds, r1]
            | some la =>
              cases lv with
              | none => exact hl.elim
              | some lv =>
                simp only [bound1] at h2
                simp [Instr.sliceBounds, r1, run_bound1 (P := P) h2 hl e2]
      · cases hv with
        | none => cases hs
        | some hv =>
          cases hi with
          | none => exact hh.elim
          | some ha =>
            simp only [bound1] at h1
            have rm : ∀ code, (Instr.sliceBound (.int k m) cp code).run P w = .ok m w := fun code => by
              simp only [Instr.sliceBound, asIntOf, Sem.run_bind, Sem.run_pure, Result.andThen_ok]
              rw [if_pos ⟨by omega, by omega⟩]
              simp
            have r1 : ∀ code, (Instr.sliceBound hv m code).run P w = .ok hh' w := fun code => run_bound1 h1 hh (by omega)
            cases lo with
            | none =>
              cases lv with
              | some _ => exact hl.elim
              | none =>
                simp only [bound1, Option.some.injEq] at h2
                subst h2
                simp [Instr.sliceBounds, r1, rm]
            | some la =>
              cases lv with
              | none => exact hl.elim
              | some lv =>
                simp only [bound1] at h2
                simp [Instr.sliceBounds, r1, rm, run_bound1 (P := P) h2 hl e2]

theorem mul_room {a l m n : Nat} (hl : l ≤ m) : a + l * n + (m - l) * n = a + m * n := by
  rw [Nat.add_assoc, ← Nat.add_mul]; congr 2; omega

theorem sub1_ok {o off : Nat} {n l e : Nat} {b base cp m : Nat} {q : Option Nat} (h1 : c.loc o = some (b, base)) (hle : l ≤ e) (hem : e ≤ m) (hmc : m ≤ cp)
    (hq : ∀ x, q = some x → m - l = x) (hroom : ∃ ty k, w.shape? b = some (ty, k) ∧ base + off + cp * n ≤ k) :
    crel c w (sub1 o off q n l e) (.slice (if m = l then some ⟨b, base + off, none⟩ else some (Addr.add ⟨b, base + off, none⟩ (l * n))) (e - l) (m - l)) := by
  unfold sub1
  cases hb : (Nat.beq l e && Nat.blt 0 l) with
  | true =>
    simp only [Bool.and_eq_true] at hb
    have := beq_t hb.1
    subst this
    simp only [cond_true, crel, Nat.sub_self]
    split
    · exact ⟨_, _, rfl⟩
    · exact ⟨_, _, rfl⟩
  | false =>
    have hcase : l = 0 ∨ l ≠ e := by
      rcases Nat.eq_zero_or_pos l with h | h
      · exact .inl h
      · right; rintro rfl
        have : Nat.blt 0 l = true := Nat.ble_eq_true_of_le h
        simp [this] at hb
    have haddr : (if m = l then some ⟨b, base + off, none⟩ else some (Addr.add ⟨b, base + off, none⟩ (l * n))) = some (⟨b, base + (off + l * n), none⟩ : Addr) := by
      rw [add_none]
      split
      · rename_i hml
        rcases hcase with rfl | hne
        · simp
        · omega
      · rw [Nat.add_assoc]
    rw [haddr]
    obtain ⟨ty, k, k1, k2⟩ := hroom
    simp only [cond_false, crel]
    refine ⟨b, base, m - l, h1, rfl, by omega, hq, ty, k, k1, ?_⟩
    have : base + (off + l * n) + (m - l) * n = base + off + m * n := by rw [← Nat.add_assoc]; exact mul_room (by omega)
    rw [this]
    have : m * n ≤ cp * n := Nat.mul_le_mul_right n hmc
    omega

theorem sub2_ok {n l e : Nat} {full : Bool} {cs : List AV} {b off m : Nat} (h1 : c.frz b) (h2 : crelm c w cs b off) (hle : l ≤ e) (hem : e ≤ m) (hf : full = true → m - l = e - l) :
    crel c w (sub2 n full cs l e) (.slice (if m = l then some ⟨b, off, none⟩ else some (Addr.add ⟨b, off, none⟩ (l * n))) (e - l) (m - l)) := by
  unfold sub2
  cases hb : (Nat.beq l e && Nat.blt 0 l) with
  | true =>
    simp only [Bool.and_eq_true] at hb
    have := beq_t hb.1
    subst this
    simp only [cond_true, crel, Nat.sub_self]
    split
    · exact ⟨_, _, rfl⟩
    · exact ⟨_, _, rfl⟩
  | false =>
    have hcase : l = 0 ∨ l ≠ e := by
      rcases Nat.eq_zero_or_pos l with h | h
      · exact .inl h
      · right; rintro rfl
        have : Nat.blt 0 l = true := Nat.ble_eq_true_of_le h
        simp [this] at hb
    have haddr : (if m = l then some ⟨b, off, none⟩ else some (Addr.add ⟨b, off, none⟩ (l * n))) = some (⟨b, off + l * n, none⟩ : Addr) := by
      rw [add_none]
      split
      · rename_i hml
        rcases hcase with rfl | hne
        · simp
        · omega
      · rfl
    rw [haddr]
    simp only [cond_false, crel]
    exact ⟨b, _, m - l, rfl, by omega, hf, h1, crelm_drop _ h2⟩

theorem doSlice_ok (T : TabOK P E) (r : HRel c h w) {t : Nat} {x : AV} {xv : Value} {lo hi mx : Option AV} {lv hv mv : Option Value} (hx : crel c w x xv) (hl : ORel c w lo lv) (hh : ORel c w hi hv) (hm : ORel c w mx mv)
    (hwell : mx.isSome = true → hi.isSome = true) : VON P c h w (Instr.sliceAt t xv lv hv mv) (doSlice E h t x lo hi mx) := by
  unfold doSlice
  cases ht : E.ty t with
  | none => exact VON.none
  | some i =>
    have hu := run_und (T.ty t i ht).und w
    dsimp only
    split
    · rename_i s hd
      simp only [crel] at hx
      obtain ⟨b, rfl, hb⟩ := hx
      rw [hd] at hu
      have hlen : s.length = b.size := by rw [← hb]; simp
      unfold doSliceStr
      split
      · rename_i l e hbd
        cases mv with
        | some _ => exact hm.elim
        | none =>
          obtain ⟨k1, k2, k3, _⟩ := bounds_ok (P := P) (b := false) hl hh (Nat.le_refl _) hbd
          rw [hlen] at k3
          refine VON.val r (cv := .string (b.extract l e)) ?_ ?_
          · simp only [Instr.sliceAt, Instr.slice, Sem.run_bind, hu, Result.andThen_ok]
            simp [k3]
          · simp only [crel]
            refine ⟨_, rfl, ?_⟩
            rw [← hb]
            simp [ByteArray.data_extract, List.map_take, List.map_drop, List.take_drop]
      · exact VON.none
    · rename_i x' d' x'' e' hd
      rw [hd] at hu
      cases hs : E.ty e' with
      | none => simp only [sz, hs]; exact VON.none
      | some q =>
        simp only [sz, hs]
        have rs := (T.ty _ _ hs).run_sizeOf (w := w)
        unfold doSliceV
        split
        · rename_i o off len cap s'
          cases hsz : Nat.beq s' q.size with
          | false => exact VON.none
          | true =>
            have := beq_t hsz
            subst this
            simp only [cond_true]
            simp only [crel] at hx
            obtain ⟨b, base, cp, g1, rfl, g2, g3, ty, k, g4, g5⟩ := hx
            have hcap : cap.getD len ≤ cp := by
              cases cap with
              | none => simpa using g2
              | some x => simp; rw [g3 x rfl]; exact Nat.le_refl _
            unfold doSliceSl
            cases hbd : sliceBounds' len (cap.getD len) lo hi with
            | none => exact VON.none
            | some le =>
              obtain ⟨l, e⟩ := le
              obtain ⟨k1, k2, k3, k4⟩ := bounds_ok (P := P) (b := true) hl hh hcap hbd
              dsimp only
              cases mx with
              | none =>
                cases mv with
                | some _ => exact hm.elim
                | none =>
                  refine VON.val r (cv := _) ?_ (sub1_ok (m := cp) (cp := cp) g1 k1 (by omega) (Nat.le_refl _) (fun x hx => ?_) ⟨ty, k, g4, g5⟩)
                  · simp only [Instr.sliceAt, Instr.slice, Sem.run_bind, hu, Result.andThen_ok, k3, rs, Sem.run_pure]
                    congr 2
                  · cases cap with
                    | none => simp [capLess] at hx
                    | some y => simp only [capLess, Option.some.injEq] at hx; rw [g3 y rfl]; exact hx
              | some ma =>
                cases mv with
                | none => exact hm.elim
                | some mv =>
                  dsimp only
                  cases hn : natOf ma with
                  | none => exact VON.none
                  | some m =>
                    dsimp only
                    cases hbb : (Nat.ble e m && Nat.ble m (cap.getD len)) with
                    | false => exact VON.none
                    | true =>
                      simp only [Bool.and_eq_true] at hbb
                      have b1 := ble_t hbb.1
                      have b2 := ble_t hbb.2
                      simp only [cond_true]
                      obtain ⟨kk, rfl⟩ := natOf_int hn
                      have hm' : mv = .int kk (m : Int) := by simpa only [ORel, crel] using hm
                      subst hm'
                      have hhs : hv.isSome = true := by
                        have := hwell rfl
                        cases hi with
                        | none => cases this
                        | some _ => cases hv with
                          | none => exact hh.elim
                          | some _ => rfl
                      refine VON.val r (cv := _) ?_ (sub1_ok (m := m) (cp := cp) g1 k1 b1 (by omega) (fun x hx => by simpa using hx) ⟨ty, k, g4, g5⟩)
                      simp only [Instr.sliceAt, Instr.slice, Sem.run_bind, hu, Result.andThen_ok, k4 m kk hhs b1 (by omega), rs, Sem.run_pure]
                      congr 2
        · rename_i len full cs
          simp only [crel] at hx
          obtain ⟨b, off, cp, rfl, g1, g2, g3, g4⟩ := hx
          unfold doSliceF
          cases hbd : sliceBounds' len len lo hi with
          | none => exact VON.none
          | some le =>
            obtain ⟨l, e⟩ := le
            obtain ⟨k1, k2, k3, k4⟩ := bounds_ok (P := P) (b := true) hl hh g1 hbd
            dsimp only
            cases mx with
            | none =>
              cases mv with
              | some _ => exact hm.elim
              | none =>
                refine VON.val r (cv := _) ?_ (sub2_ok (m := cp) g3 g4 k1 (by omega) (fun hf => ?_))
                · simp only [Instr.sliceAt, Instr.slice, Sem.run_bind, hu, Result.andThen_ok, k3, rs, Sem.run_pure]
                  congr 2
                · simp only [Bool.and_eq_true] at hf
                  have := beq_t hf.2
                  rw [g2 hf.1, this]
            | some ma =>
              cases mv with
              | none => exact hm.elim
              | some mv =>
                dsimp only
                cases hn : natOf ma with
                | none => exact VON.none
                | some m =>
                  dsimp only
                  cases hbb : Nat.beq e m with
                  | false => exact VON.none
                  | true =>
                    have := beq_t hbb
                    subst this
                    simp only [cond_true]
                    obtain ⟨kk, rfl⟩ := natOf_int hn
                    have hm' : mv = .int kk (e : Int) := by simpa only [ORel, crel] using hm
                    subst hm'
                    have hhs : hv.isSome = true := by
                      have := hwell rfl
                      cases hi with
                      | none => cases this
                      | some _ => cases hv with
                        | none => exact hh.elim
                        | some _ => rfl
                    refine VON.val r (cv := _) ?_ (sub2_ok (m := e) g3 g4 k1 (Nat.le_refl _) (fun _ => rfl))
                    simp only [Instr.sliceAt, Instr.slice, Sem.run_bind, hu, Result.andThen_ok, k4 e kk hhs (Nat.le_refl _) (by omega), rs, Sem.run_pure]
                    congr 2
        · simp only [crel] at hx; subst hx
          split
          · rename_i le hbd
            obtain ⟨l, e⟩ := le
            cases mv with
            | some _ => exact hm.elim
            | none =>
              obtain ⟨k1, k2, k3, _⟩ := bounds_ok (P := P) (b := true) hl hh (Nat.le_refl _) hbd
              have : l = 0 := by omega
              subst this
              have : e = 0 := by omega
              subst this
              refine VON.val r (cv := .slice none 0 0) ?_ (by simp [crel])
              simp only [Instr.sliceAt, Instr.slice, Sem.run_bind, hu, Result.andThen_ok, k3, rs, Sem.run_pure]
              simp
          · exact VON.none
        · exact VON.none
    · exact VON.none

/-! lengths -/
theorem lenA_ok {d : TypeDesc} {x : AV} {n : Nat} {xv : Value} (hd : isLenDesc d x = true) (hn : lenA x = some n) (hx : crel c w x xv) :
    (∃ s : ByteArray, xv = .string s ∧ s.size = n ∧ d = .string) ∨ (∃ a cp e, xv = .slice a n cp ∧ d = .slice e) := by
  cases x <;> simp only [lenA, Option.some.injEq] at hn <;> (try (cases hn; done)) <;> cases d <;> simp only [isLenDesc] at hd <;> (try (cases hd; done)) <;> subst hn <;> simp only [crel] at hx
  · obtain ⟨b, rfl, hb⟩ := hx
    exact .inl ⟨b, rfl, by rw [← hb]; simp, rfl⟩
  · subst hx; exact .inr ⟨_, _, _, rfl, rfl⟩
  · obtain ⟨b, base, cp, _, rfl, _⟩ := hx; exact .inr ⟨_, _, _, rfl, rfl⟩
  · obtain ⟨a, cp, rfl⟩ := hx; exact .inr ⟨_, _, _, rfl, rfl⟩
  · obtain ⟨b, off, cp, rfl, _⟩ := hx; exact .inr ⟨_, _, _, rfl, rfl⟩

theorem doLen_ok (T : TabOK P E) (r : HRel c h w) (ts : Array TypeId) (ty : TypeId) {x : AV} {xv : Value} (hx : crel c w x xv) : VON P c h w (Builtin.len_ ts ty #[xv]) (doLen E h ts[0]? x) := by
  unfold doLen
  cases h0 : ts[0]? with
  | none => exact VON.none
  | some t =>
    dsimp only
    cases ht : E.ty t with
    | none => exact VON.none
    | some i =>
      have hu := run_und (T.ty t i ht).und w
      dsimp only
      split
      · rename_i q
        simp only [crel] at hx
        obtain ⟨rfl, hle, hf, hw⟩ := hx
        cases hsd : isSliceD i.d with
        | false => exact VON.none
        | true =>
          simp only [cond_true]
          cases hxl : E.xlen q with
          | none => exact VON.none
          | some v =>
            refine VON.val r (cv := .int .i64 (Val.xn q : Int)) ?_ (T.xlen _ _ hxl c w)
            unfold isSliceD at hsd
            split at hsd
            · rename_i e he
              rw [he] at hu
              simp [Builtin.len_, h0, hu, goInt]
            · cases hsd
      cases hd : isLenDesc i.d x with
      | false => exact VON.none
      | true =>
        simp only [cond_true]
        cases hn : lenA x with
        | none => exact VON.none
        | some n =>
          refine VON.val r (cv := .int .i64 (n : Int)) ?_ (by simp [crel])
          rcases lenA_ok hd hn hx with ⟨s, rfl, rfl, he⟩ | ⟨a, cp, e, rfl, he⟩
          · rw [he] at hu
            simp [Builtin.len_, h0, hu, goInt]
          · rw [he] at hu
            simp [Builtin.len_, h0, hu, goInt]

theorem doCap_ok (T : TabOK P E) (r : HRel c h w) (ts : Array TypeId) (ty : TypeId) {x : AV} {xv : Value} (hx : crel c w x xv) : VON P c h w (Builtin.cap_ ts ty #[xv]) (doCap E h ts[0]? x) := by
  unfold doCap
  cases h0 : ts[0]? with
  | none => exact VON.none
  | some t =>
    dsimp only
    split
    · rename_i e s1 b1 z1 a1 f1 ht
      have hu := run_und (T.ty t _ ht).und w
      cases hn : capA x with
      | none => exact VON.none
      | some n =>
        have : ∃ a len, xv = .slice a len n := by
          cases x <;> simp only [capA] at hn <;> (try (cases hn; done)) <;> simp only [crel] at hx
          · cases hn; subst hx; exact ⟨_, _, rfl⟩
          · rename_i cap _
            cases cap with
            | none => cases hn
            | some cc =>
              simp only [Option.some.injEq] at hn
              subst hn
              obtain ⟨b, base, cp, _, rfl, _, h3, _⟩ := hx
              exact ⟨_, _, by rw [h3 _ rfl]⟩
          · rename_i full _
            cases full with
            | false => cases hn
            | true =>
              simp only [Option.some.injEq] at hn
              subst hn
              obtain ⟨b, off, cp, rfl, _, h3, _⟩ := hx
              exact ⟨_, _, by rw [h3 rfl]⟩
        obtain ⟨a, len, rfl⟩ := this
        exact VON.val r (cv := .int .i64 (n : Int)) (by simp [Builtin.cap_, h0, hu, goInt]) (by simp [crel])
    · exact VON.none

theorem doMax_ok (r : HRel c h w) (ts : Array TypeId) (ty : TypeId) {x y : AV} {xv yv : Value} (hx : crel c w x xv) (hy : crel c w y yv) : VON P c h w (Builtin.max_ ts ty #[xv, yv]) (doMax h x y) := by
  unfold doMax
  split
  · rename_i k a k' b
    simp only [crel] at hx hy; subst hx; subst hy
    exact VON.val r (cv := .int k (if b > a then b else a)) (by simp [Builtin.max_, Builtin.max2, List.foldlM]) (by simp [crel])
  · exact VON.none
theorem doMin_ok (r : HRel c h w) (ts : Array TypeId) (ty : TypeId) {x y : AV} {xv yv : Value} (hx : crel c w x xv) (hy : crel c w y yv) : VON P c h w (Builtin.min_ ts ty #[xv, yv]) (doMin h x y) := by
  unfold doMin
  split
  · rename_i k a k' b
    simp only [crel] at hx hy; subst hx; subst hy
    exact VON.val r (cv := .int k (if b < a then b else a)) (by simp [Builtin.min_, Builtin.min2, List.foldlM]) (by simp [crel])
  · exact VON.none
end
end Rfx
