/- Drawn regions, fourth part: the swap; an operation is brought to the front. -/
import Derived.Test.YtnjpcjnkhelfoabGreatDoorRfxSwap3
set_option linter.unusedSectionVars false
set_option linter.unusedVariables false
set_option linter.unusedSimpArgs false
set_option linter.unnecessarySimpa false
namespace Rfx
open Go
variable [Val]

section
variable {E : Env} {call : Call} {d : Dw} {all : List Oper} {base n : Nat}

theorem clearD_put : ∀ {l : List Oper} {o : Oper} {t : Nat} {tm : Tr AV} {v : AV}, o ∈ l → o.dst = some t → clearD l (tm.set t v) = clearD l tm
  | [], _, _, _, _, h, _ => by cases h
  | p :: l, o, t, tm, v, h, ht => by
    rcases List.mem_cons.1 h with rfl | h
    · simp only [clearD, ht, Tr.set_set]
    · simp only [clearD]
      cases hp : p.dst with
      | none => exact clearD_put h ht
      | some u =>
        dsimp only
        by_cases e : u = t
        · subst e; rw [Tr.set_set]
        · rw [Tr.set_comm _ _ _ e]; exact clearD_put h ht

theorem clear_putF {fr fr' : Fr} {o : Oper} {v : AV} (ho : o ∈ all) (e : putF fr o.dst v = some fr') : ({ fr' with tm := clearD all fr'.tm } : Fr) = { fr with tm := clearD all fr.tm } := by
  cases hd : o.dst with
  | none => rw [hd] at e; cases e; rfl
  | some t =>
    rw [hd] at e
    simp only [putF] at e
    obtain ⟨_, e⟩ := cond_some e
    cases e
    rw [clearD_put ho hd]

theorem setO_comm {pend : Tr AB} {x y : Nat} {B C : Option AB} (h : x ≠ y) : setO (setO pend y C) x B = setO (setO pend x B) y C := by
  cases B <;> cases C <;> simp only [setO]
  exact Tr.set_comm _ _ _ h

theorem lor_swap (a b c : Nat) : a ||| b ||| c = a ||| c ||| b := by
  apply Nat.eq_of_testBit_eq
  intro i
  simp only [Nat.testBit_or]
  cases a.testBit i <;> cases b.testBit i <;> cases c.testBit i <;> rfl

theorem core_of {i : Nat} {o : Oper} {tm : Tr AV} {ws : List Wt} {pend : Tr AB} {done : Nat} {h : AH} {p : DO} (e : plan E all base i o tm = some p) :
    core E call d all base n i o tm ws pend done h = cDo E call d base n i o tm ws pend done h (some p) := by
  unfold core; rw [e]

theorem isVal_eq {v : AV} {r : ON} (h : isVal v r = true) : ∃ h', r = some (.val v, h') := by
  unfold isVal at h
  split at h
  · rename_i w h'
    rw [AV.beq_t h]; exact ⟨h', rfl⟩
  · cases h

def SwapOK (E : Env) (call : Call) (d : Dw) (all : List Oper) (base n x y : Nat) (s : DS) : DR → Prop
  | .go s2 => ∃ s1', dOne E call d all base n y s = some (.go s1') ∧ ∃ s2', dOne E call d all base n x s1' = some (.go s2') ∧ Sub s2' s2
  | .stop e f h => dOne E call d all base n y s = some (.stop e f h)

theorem watch_st {j : Nat} {sto : Option Nat} {done done' : Nat} {pend : Tr AB} {h h' : AH} {ws : List Wt} (hw : watchOk E d base n j sto done pend h ws = true) (hr : ∀ k r v, .rd k r v ∈ ws → d.bit j k = true) :
    watchOk E d base n j sto done' pend h' ws = true := by
  unfold watchOk at *
  rw [List.all_eq_true] at *
  intro x hx
  cases x with
  | rd k r v => simp only [wtOk, hr k r v hx, Bool.true_or]
  | st k o => exact hw _ hx

theorem swap {x y : Nat} (hp : pairOk d all x y = true) (hnb : d.bit y x = false) {s s1 : DS} {r : DR}
    (hW : ∀ k r v, .rd k r v ∈ s.ws → d.bit k x = false ∧ d.bit k y = false)
    (hL : ∀ z o, z = x ∨ z = y → all[z]? = some o → d.lax.testBit z = true → kindOf o.op = .store → (∀ k, s.pend.get k ≠ none → d.bit z k = true) ∧ (∀ k r v, .rd k r v ∈ s.ws → d.bit z k = true))
    (e1 : dOne E call d all base n x s = some (.go s1)) (e2 : dOne E call d all base n y s1 = some r) : SwapOK E call d all base n x y s r := by
  obtain ⟨o, p, ho, hpp, hxy, hv, hh⟩ := pairOk_spec hp
  obtain ⟨hpan, hap, hkk⟩ := hh.resolve_left (by rw [hnb]; simp)
  obtain ⟨a1, a2, a3⟩ := apartO_spec hap
  have hmem : o ∈ all := List.mem_of_getElem? ho
  rw [dOne_eq E call d all base n ho] at e1
  rw [dOne_eq E call d all base n hpp] at e2
  obtain ⟨v, ws1, B, done1, h1, fr1, c1, p1, rfl⟩ := cEnd_go e1
  dsimp only at e2
  have ag1 : ∀ t ∈ looksAt all p, fr1.tm.get t = s.fr.tm.get t := fun t ht => putF_get p1 fun hd => a1 t hd ht
  have hplan : plan E all base y p fr1.tm = plan E all base y p s.fr.tm := plan_looks ag1
  -- what y comes to when it stands first
  have ydone : ∀ {u wsy By dn hy fr2}, core E call d all base n y p s.fr.tm s.ws s.pend s.done s.h = some (.val u wsy By dn hy) → putF fr1 p.dst u = some fr2 →
      ∃ fr1', dOne E call d all base n y s = some (.go ⟨wsy, setO s.pend y By, dn, fr1', hy⟩) ∧ putF fr1' o.dst v = some fr2 ∧ (∀ t ∈ looksAt all o, fr1'.tm.get t = s.fr.tm.get t) := by
    intro u wsy By dn hy fr2 hc hf
    obtain ⟨fr1', k1, k2⟩ := putF_comm a2 p1 hf
    refine ⟨fr1', ?_, k2, fun t ht => putF_get k1 fun hd => a3 t hd ht⟩
    rw [dOne_eq E call d all base n hpp, hc]
    simp only [cEnd, k1]
  have xdone : ∀ {wsy By dn hy fr1' fr2 ws2 C dn2 h2}, putF fr1' o.dst v = some fr2 → core E call d all base n x o fr1'.tm wsy (setO s.pend y By) dn hy = some (.val v ws2 C dn2 h2) →
      dOne E call d all base n x ⟨wsy, setO s.pend y By, dn, fr1', hy⟩ = some (.go ⟨ws2, setO (setO s.pend y By) x C, dn2, fr2, h2⟩) := by
    intro wsy By dn hy fr1' fr2 ws2 C dn2 h2 k1 k2
    rw [dOne_eq E call d all base n ho]
    dsimp only
    rw [k2]
    simp only [cEnd, k1]
  have ystop : ∀ {u hy}, core E call d all base n y p s.fr.tm s.ws s.pend s.done s.h = some (.stop u hy) →
      dOne E call d all base n y s = some (.stop (.panic u) { fr1 with tm := clearD all fr1.tm } hy) := by
    intro u hy hc
    rw [dOne_eq E call d all base n hpp, hc]
    simp only [cEnd]
    rw [clear_putF hmem p1]
  cases hpx : plan E all base x o s.fr.tm with
  | none => unfold core at c1; rw [hpx] at c1; cases c1
  | some px =>
  cases hpy : plan E all base y p s.fr.tm with
  | none => unfold core at e2; rw [hplan, hpy] at e2; cases e2
  | some py =>
  have kx := plan_kind hpx
  have ky := plan_kind hpy
  rw [core_of hpx] at c1
  cases px with
  | fr vx Bx =>
    simp only [cDo, Option.some.injEq, DC.val.injEq] at c1
    obtain ⟨rfl, rfl, rfl, rfl, rfl⟩ := c1
    have hcc : core E call d all base n y p fr1.tm s.ws (setO s.pend x Bx) s.done s.h = core E call d all base n y p s.fr.tm s.ws s.pend s.done s.h :=
      core_congr ag1 (fun k hk => get_setO (by rintro rfl; rw [hnb] at hk; cases hk)) fun k r w hm j hj => get_setO (by rintro rfl; rw [(hW k r w hm).1] at hj; cases hj)
    rw [hcc] at e2
    cases r with
    | go s2 =>
      obtain ⟨u, ws2, By, done2, h2, fr2, c2, p2, rfl⟩ := cEnd_go e2
      obtain ⟨fr1', k1, k2, k3⟩ := ydone c2 p2
      refine ⟨_, k1, _, xdone (ws2 := ws2) (C := Bx) (dn2 := done2) (h2 := h2) k2 ?_, ?_⟩
      · rw [core_of (p := .fr vx Bx) (by rw [plan_looks k3]; exact hpx)]; rfl
      · exact ⟨fun _ h => h, setO_comm hxy, rfl, rfl, rfl⟩
    | stop e f h =>
      obtain ⟨u, c2, rfl, rfl⟩ := cEnd_stop e2
      exact ystop c2
  | rd rx =>
    cases py with
    | fr u By =>
      rw [core_of (by rw [hplan]; exact hpy)] at e2
      cases r with
      | stop e f h => obtain ⟨w, c2, _⟩ := cEnd_stop e2; cases c2
      | go s2 =>
        obtain ⟨u', ws2, By', done2, h2, fr2, c2, p2, rfl⟩ := cEnd_go e2
        simp only [cDo, Option.some.injEq, DC.val.injEq] at c2
        obtain ⟨rfl, rfl, rfl, rfl, rfl⟩ := c2
        obtain ⟨fr1', k1, k2, k3⟩ := ydone (core_of hpy) p2
        refine ⟨_, k1, _, xdone (ws2 := ws1) (C := B) (dn2 := done1) (h2 := h1) k2 ?_, ?_⟩
        · rw [core_congr (tm' := s.fr.tm) (pend' := s.pend) k3 (fun k hk => get_setO (by rintro rfl; rw [hv] at hk; cases hk)) fun k r w hm j hj => get_setO (by rintro rfl; rw [(hW k r w hm).2] at hj; cases hj), core_of hpx]
          exact c1
        · exact ⟨fun _ h => h, setO_comm hxy, rfl, rfl, rfl⟩
    | rd ry =>
      simp only [cDo] at c1
      split at c1
      · rename_i v' hx' hrx
        simp only [Option.some.injEq, DC.val.injEq] at c1
        obtain ⟨rfl, rfl, rfl, rfl, rfl⟩ := c1
        rw [core_of (by rw [hplan]; exact hpy)] at e2
        simp only [cDo, setO] at e2
        split at e2
        · rename_i u hy' hry
          cases r with
          | stop e f h => obtain ⟨w, c2, _⟩ := cEnd_stop e2; cases c2
          | go s2 =>
            obtain ⟨u', ws2, By', done2, h2, fr2, c2, p2, rfl⟩ := cEnd_go e2
            simp only [Option.some.injEq, DC.val.injEq] at c2
            obtain ⟨rfl, rfl, rfl, rfl, rfl⟩ := c2
            obtain ⟨fr1', k1, k2, k3⟩ := ydone (u := u) (wsy := .rd y ry u :: s.ws) (By := none) (dn := s.done) (hy := s.h) (by rw [core_of hpy]; simp only [cDo, hry]) p2
            refine ⟨_, k1, _, xdone (ws2 := .rd x rx v' :: .rd y ry u :: s.ws) (C := none) (dn2 := s.done) (h2 := s.h) k2 ?_, ?_⟩
            · rw [core_of (p := .rd rx) (by rw [plan_looks k3]; exact hpx)]
              simp only [cDo, setO, hrx]
            · refine ⟨fun z hz => ?_, rfl, rfl, rfl, rfl⟩
              simp only [List.mem_cons] at hz ⊢
              rcases hz with hz | hz | hz
              · exact .inr (.inl hz)
              · exact .inl hz
              · exact .inr (.inr hz)
        · cases e2
      · cases c1
    | ef sto =>
      simp only [cDo] at c1
      split at c1
      · rename_i v' hx' hrx
        simp only [Option.some.injEq, DC.val.injEq] at c1
        obtain ⟨rfl, rfl, rfl, rfl, rfl⟩ := c1
        rw [core_of (by rw [hplan]; exact hpy)] at e2
        simp only [cDo, setO] at e2
        rw [opA_congr _ _ _ (opnd_looks ag1)] at e2
        cases hca : cAft E call d base n y sto (.rd x rx v' :: s.ws) s.pend s.done (opA E (base + y) s.fr.tm p.op (fl base n (d.before y) s.done s.pend s.h)) with
        | none => rw [hca] at e2; cases e2
        | some rr =>
          rw [hca] at e2
          rcases cAft_cases hca with ⟨u, h2, rfl, hwt, hall⟩ | ⟨u, h2, rfl, _, hall⟩
          · cases r with
            | stop e f h => obtain ⟨w, c2, _⟩ := cEnd_stop e2; cases c2
            | go s2 =>
              obtain ⟨u', ws2, By', done2, h3, fr2, c2, p2, rfl⟩ := cEnd_go e2
              simp only [Option.some.injEq, DC.val.injEq] at c2
              obtain ⟨rfl, rfl, rfl, rfl, rfl⟩ := c2
              obtain ⟨fr1', k1, k2, k3⟩ := ydone (by rw [core_of hpy]; simp only [cDo]; exact hall s.ws (watch_sub (fun z hz => List.mem_cons_of_mem _ hz) hwt)) p2
              have hx1 : isVal v' (rdRun E (fl base n (d.before x) (s.done ||| d.before y) s.pend h2) rx) = true := by
                unfold watchOk at hwt
                rw [List.all_eq_true] at hwt
                have := hwt (.rd x rx v') List.mem_cons_self
                simpa only [wtOk, hnb, Bool.false_or] using this
              obtain ⟨h4, hx2⟩ := isVal_eq hx1
              refine ⟨_, k1, _, xdone (ws2 := .rd x rx v' :: stw y sto s.ws) (C := none) (dn2 := s.done ||| d.before y) (h2 := h2) k2 ?_, ?_⟩
              · rw [core_of (p := .rd rx) (by rw [plan_looks k3]; exact hpx)]
                simp only [cDo, setO, hx2]
              · refine ⟨fun z hz => ?_, rfl, rfl, rfl, rfl⟩
                cases sto with
                | none => exact hz
                | some b =>
                  simp only [stw, List.mem_cons] at hz ⊢
                  rcases hz with hz | hz | hz
                  · exact .inr (.inl hz)
                  · exact .inl hz
                  · exact .inr (.inr hz)
          · cases r with
            | go s2 => obtain ⟨_, _, _, _, _, _, c2, _⟩ := cEnd_go e2; cases c2
            | stop e f h =>
              obtain ⟨w, c2, rfl, rfl⟩ := cEnd_stop e2
              simp only [Option.some.injEq, DC.stop.injEq] at c2
              obtain ⟨rfl, rfl⟩ := c2
              exact ystop (by rw [core_of hpy]; simp only [cDo]; exact hall s.ws)
      · cases c1
  | ef sx =>
    cases py with
    | fr u By =>
      rw [core_of (by rw [hplan]; exact hpy)] at e2
      cases r with
      | stop e f h => obtain ⟨w, c2, _⟩ := cEnd_stop e2; cases c2
      | go s2 =>
        obtain ⟨u', ws2, By', done2, h2, fr2, c2, p2, rfl⟩ := cEnd_go e2
        simp only [cDo, Option.some.injEq, DC.val.injEq] at c2
        obtain ⟨rfl, rfl, rfl, rfl, rfl⟩ := c2
        obtain ⟨fr1', k1, k2, k3⟩ := ydone (core_of hpy) p2
        refine ⟨_, k1, _, xdone (ws2 := ws1) (C := B) (dn2 := done1) (h2 := h1) k2 ?_, ?_⟩
        · rw [core_congr (tm' := s.fr.tm) (pend' := s.pend) k3 (fun k hk => get_setO (by rintro rfl; rw [hv] at hk; cases hk)) fun k r w hm j hj => get_setO (by rintro rfl; rw [(hW k r w hm).2] at hj; cases hj), core_of hpx]
          exact c1
        · exact ⟨fun _ h => h, setO_comm hxy, rfl, rfl, rfl⟩
    | rd ry =>
      simp only [PK] at ky
      cases sx <;> simp only [PK] at kx
      · rw [kx, ky.1] at hkk; cases hkk
      · rw [kx.1, ky.1] at hkk; cases hkk
    | ef sy =>
      cases sx with
      | none =>
        simp only [PK] at kx
        cases sy <;> simp only [PK] at ky
        · rw [kx, ky] at hkk; cases hkk
        · rw [kx, ky.1] at hkk; cases hkk
      | some bx =>
        cases sy with
        | none =>
          simp only [PK] at kx ky
          rw [kx.1, ky] at hkk; cases hkk
        | some b2 =>
          simp only [PK] at kx ky
          rw [kx.1, ky.1] at hkk
          simp only [kindsOk, Bool.and_eq_true] at hkk
          obtain ⟨lx1, lx2⟩ := hL x o (.inl rfl) ho hkk.1 kx.1
          obtain ⟨ly1, ly2⟩ := hL y p (.inr rfl) hpp hkk.2 ky.1
          obtain ⟨tx, ax, vx, hox, offx, hax⟩ := store_op kx.2
          obtain ⟨t2, a2', v2, hpy2, off2, ha2⟩ := store_op ky.2
          have ope : ∀ i tm h t a x, opA E i tm (.store t a x) h = doStore E h t (opnd tm a) (opnd tm x) := fun _ _ _ _ _ _ => rfl
          simp only [cDo, hox, ope] at c1
          cases hsx : doStore E (fl base n (d.before x) s.done s.pend s.h) tx (opnd s.fr.tm ax) (opnd s.fr.tm vx) with
          | none => rw [hsx] at c1; cases c1
          | some rx =>
          obtain ⟨anx, hx'⟩ := rx
          obtain ⟨ox, offx', Bx, q1, rfl, rfl, hspx⟩ := doStore_spec hsx
          rw [hax] at q1
          obtain ⟨rfl, rfl⟩ := AV.ptr.inj q1
          rw [hsx] at c1
          obtain ⟨c1a, hwx, hbx⟩ := cEff_val c1
          simp only [DC.val.injEq] at c1a
          obtain ⟨rfl, rfl, rfl, rfl, rfl⟩ := c1a
          have opy := opnd_looks ag1
          rw [hpy2] at opy
          rw [core_of (by rw [hplan]; exact hpy)] at e2
          simp only [cDo, setO, hpy2, ope] at e2
          rw [opy a2' (by simp [Op.operands]), opy v2 (by simp [Op.operands])] at e2
          -- everything that waits is in the heap
          have hG : fl base n (d.before y) s.done s.pend s.h = fl base n (d.before x) s.done s.pend s.h := fl_congr fun k => by
            cases hk : s.pend.get k with
            | none => simp
            | some C =>
              have h1 : (d.before y).testBit k = true := ly1 k (by rw [hk]; simp)
              have h2 : (d.before x).testBit k = true := lx1 k (by rw [hk]; simp)
              rw [h1, h2]
          have hid : ∀ (q : Nat) (g : AH), (∀ k, s.pend.get k ≠ none → (s.done ||| q).testBit k = true) → ∀ p', fl base n p' (s.done ||| q) s.pend g = g := fun q g hq p' => by
            rw [fl_eq, flushN_none fun k _ _ hk => ?_]
            cases hh : s.pend.get k with
            | none => rfl
            | some C => rw [hq k (by rw [hh]; simp)] at hk; cases hk
          have hqx : ∀ k, s.pend.get k ≠ none → (s.done ||| d.before x).testBit k = true := fun k hk => by
            rw [Nat.testBit_or]; have : (d.before x).testBit k = true := lx1 k hk; rw [this]; simp
          have hqy : ∀ k, s.pend.get k ≠ none → (s.done ||| d.before y).testBit k = true := fun k hk => by
            rw [Nat.testBit_or]; have : (d.before y).testBit k = true := ly1 k hk; rw [this]; simp
          rw [hid _ _ hqx] at e2
          generalize hGe : fl base n (d.before x) s.done s.pend s.h = G at *
          cases hsy : doStore E ⟨G.next, G.bs.set bx Bx⟩ t2 (opnd s.fr.tm a2') (opnd s.fr.tm v2) with
          | none => rw [hsy] at e2; cases e2
          | some ry =>
          obtain ⟨an2, h2'⟩ := ry
          obtain ⟨o2, off2', B2, q2, rfl, rfl, hsp2⟩ := doStore_spec hsy
          rw [ha2] at q2
          obtain ⟨rfl, rfl⟩ := AV.ptr.inj q2
          rw [hsy] at e2
          simp only [cAft] at e2
          cases hce : cEff E d base n y (some b2) (stw x (some bx) s.ws) s.pend (s.done ||| d.before x) (.tup []) ⟨G.next, (G.bs.set bx Bx).set b2 B2⟩ with
          | none => rw [hce] at e2; cases e2
          | some rr =>
          obtain ⟨rfl, hwy, hby⟩ := cEff_val hce
          rw [hce] at e2
          have hne : bx ≠ b2 := by
            unfold watchOk at hwy
            rw [List.all_eq_true] at hwy
            have := hwy (.st x bx) (by simp [stw])
            simp only [wtOk, hnb, Bool.false_or, Bool.not_eq_true'] at this
            rintro rfl
            rw [Nat.beq_refl] at this; cases this
          cases r with
          | stop e f h => obtain ⟨w, c2, _⟩ := cEnd_stop e2; cases c2
          | go s2 =>
          obtain ⟨u', ws2, By', done2, h3, fr2, c2, p2, rfl⟩ := cEnd_go e2
          simp only [Option.some.injEq, DC.val.injEq] at c2
          obtain ⟨rfl, rfl, rfl, rfl, rfl⟩ := c2
          have w1 : watchOk E d base n y (some b2) (s.done ||| d.before y) s.pend ⟨G.next, G.bs.set b2 B2⟩ s.ws = true :=
            watch_st (watch_sub (fun z hz => by simp only [stw]; exact List.mem_cons_of_mem _ hz) hwy) ly2
          have sy : doStore E G t2 (opnd s.fr.tm a2') (opnd s.fr.tm v2) = some (.val (.tup []), ⟨G.next, G.bs.set b2 B2⟩) := hsp2 G (Tr.get_set_ne _ _ hne).symm
          obtain ⟨fr1', k1, k2, k3⟩ := ydone (u := .tup []) (wsy := stw y (some b2) s.ws) (By := none) (dn := s.done ||| d.before y) (hy := ⟨G.next, G.bs.set b2 B2⟩) (by
            rw [core_of hpy]
            simp only [cDo, hpy2, ope]
            rw [hG, sy]
            exact cEff_of w1 hbx) p2
          have opx := opnd_looks k3
          rw [hox] at opx
          have sx : doStore E ⟨G.next, G.bs.set b2 B2⟩ tx (opnd s.fr.tm ax) (opnd s.fr.tm vx) = some (.val (.tup []), ⟨G.next, (G.bs.set b2 B2).set bx Bx⟩) := hspx _ (Tr.get_set_ne _ _ hne.symm)
          have w2 : watchOk E d base n x (some bx) (s.done ||| d.before y ||| d.before x) s.pend ⟨G.next, (G.bs.set b2 B2).set bx Bx⟩ (stw y (some b2) s.ws) = true := by
            have := watch_st (done' := s.done ||| d.before y ||| d.before x) (h' := ⟨G.next, (G.bs.set b2 B2).set bx Bx⟩) hwx lx2
            unfold watchOk at this ⊢
            simp only [stw, List.all_cons, this, Bool.and_true]
            simp only [wtOk, hv, Bool.false_or]
            rw [Tr.beq_ne' (fun e => hne e.symm)]; rfl
          refine ⟨_, k1, _, xdone (ws2 := stw x (some bx) (stw y (some b2) s.ws)) (C := none) (dn2 := s.done ||| d.before y ||| d.before x) (h2 := ⟨G.next, (G.bs.set b2 B2).set bx Bx⟩) k2 ?_, ?_⟩
          · rw [core_of (p := .ef (some bx)) (by rw [plan_looks k3]; exact hpx)]
            simp only [cDo, setO, hox, ope]
            rw [opx ax (by simp [Op.operands]), opx vx (by simp [Op.operands]), hid _ _ hqy, sx]
            exact cEff_of w2 hbx
          · refine ⟨fun z hz => ?_, rfl, lor_swap _ _ _, rfl, ?_⟩
            · simp only [stw, List.mem_cons] at hz ⊢
              rcases hz with hz | hz | hz
              · exact .inr (.inl hz)
              · exact .inl hz
              · exact .inr (.inr hz)
            · dsimp only
              rw [Tr.set_comm _ _ _ hne]
end
end Rfx
