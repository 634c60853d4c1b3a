/- Mn, 2: texts of this claim, one behind the other: Ev5 Ev6 Ev7 Ev8 Ev9 EvP EvA EvB EvC. No condition. -/
import Derived.Test.YtcambhbmobepjaaGreatMn1
namespace Go.Proofs.YtcambhbmobepjaaGreat
set_option linter.unusedSimpArgs false
set_option linter.unusedVariables false
open Go.RowKit
set_option maxRecDepth 10000
noncomputable section

/-- blocks that were not written are as they were -/
def Unch (E : Env) (h h' : Hp) (w w' : World) : Prop := ∀ o, E.live o → ver o h ≤ ver o h' ∧ (ver o h' = ver o h → w'.heap[E.β o]? = w.heap[E.β o]?)
/-- one step -/
structure Stepd (P : Program) (w0 : World) (G : Nat → Prop) (E : Env) (h : Hp) (w : World) (E' : Env) (h' : Hp) (w' : World) : Prop where
  ext : Ext E E'
  inv : Inv P w0 G E' h' w'
  un : Unch E h h' w w'
  zn : ∀ b j v, E'.Z b j = some v → E.Z b j = some v ∨ w0.heap.size ≤ b ∨ G b
theorem Unch.refl (E : Env) (h : Hp) (w : World) : Unch E h h w w := fun _ _ => ⟨Nat.le_refl _, fun _ => rfl⟩
theorem Unch.trans {E E1 : Env} {h h1 h2 : Hp} {w w1 w2 : World} (a : Unch E h h1 w w1) (hx : Ext E E1) (b : Unch E1 h1 h2 w1 w2) : Unch E h h2 w w2 := fun o ho => by
  obtain ⟨a1, a2⟩ := a o ho
  obtain ⟨b1, b2⟩ := b o (hx.live o ho)
  rw [hx.β o ho] at b2
  exact ⟨Nat.le_trans a1 b1, fun e => (b2 (by omega)).trans (a2 (by omega))⟩
theorem Stepd.trans {P : Program} {w0 : World} {G : Nat → Prop} {E E1 E2 : Env} {h h1 h2 : Hp} {w w1 w2 : World} (a : Stepd P w0 G E h w E1 h1 w1) (b : Stepd P w0 G E1 h1 w1 E2 h2 w2) : Stepd P w0 G E h w E2 h2 w2 :=
  ⟨a.ext.trans b.ext, b.inv, a.un.trans a.ext b.un, fun p j v hz => by
    rcases b.zn p j v hz with h | h
    · exact a.zn p j v h
    · exact .inr h⟩
theorem Stepd.refl {P : Program} {w0 : World} {G : Nat → Prop} {E : Env} {h : Hp} {w : World} (I : Inv P w0 G E h w) : Stepd P w0 G E h w E h w := ⟨Ext.refl E, I, Unch.refl E h w, fun _ _ _ hz => .inl hz⟩
theorem Kpt.then {w0 w w' : World} {G S : Nat → Prop} (a : Kpt w0 w G) (b : Kpt w w' S) (hS : ∀ k, S k → w0.heap.size ≤ k ∨ G k) : Kpt w0 w' G :=
  ⟨b.os.trans a.os, b.tape.trans a.tape, b.output.trans a.output, Nat.le_trans a.size b.size, fun k hk hn => (b.block k (Nat.lt_of_lt_of_le hk a.size) (fun hs => by
    rcases hS k hs with h | h
    · omega
    · exact hn h)).trans (a.block k hk hn)⟩
theorem alloc_old {w : World} {k : Nat} (x : Obj) (hk : k < w.heap.size) : (w.alloc x).heap[k]? = w.heap[k]? := by
  show (w.heap.push x)[k]? = _
  rw [Array.getElem?_push, if_neg (by omega)]
theorem owns_same {w w' : World} {e sz n : Nat} {v : Value} {xs : List Value} (h : w.ownsRow 0 e sz v n xs) (hb : ∀ b, v.ownBlock = some b → w'.heap[b]? = w.heap[b]?) : w'.ownsRow 0 e sz v n xs := by
  refine ⟨h.1, ?_⟩
  rcases h.2 with h2 | ⟨g, cap, cur, rfl, h0, hg, r⟩
  · exact .inl h2
  · exact .inr ⟨g, cap, cur, rfl, h0, (hb g rfl).trans hg, r⟩
theorem owns_lt {w : World} {e sz n b : Nat} {v : Value} {xs : List Value} (h : w.ownsRow 0 e sz v n xs) (hb : v.ownBlock = some b) : b < w.heap.size := by
  rcases h.2 with ⟨rfl, _⟩ | ⟨g, cap, cur, rfl, h0, hg, r⟩
  · cases hb
  · cases hb; exact (Array.getElem?_eq_some_iff.1 hg).1
theorem cell_lt {w : World} {b j : Nat} {v : Value} (h : w.cell? ⟨b, j, none⟩ = some v) : b < w.heap.size := World.block_lt_of_cell? w ⟨b, j, none⟩ h
theorem cell_same {w w' : World} {b j : Nat} (h : w'.heap[b]? = w.heap[b]?) : w'.cell? ⟨b, j, none⟩ = w.cell? ⟨b, j, none⟩ := World.cell?_of_block h

section
variable {P : Program} {E : Env} {F : Tm} {h : Hp} {w w0 : World} {G : Nat → Prop} {a : Act}

theorem Inv.live_lt (I : Inv P w0 G E h w) {o : Nat} (ho : E.live o) : E.β o < w.heap.size := by
  obtain ⟨cs, hcs⟩ := Option.isSome_iff_exists.1 ((I.live o).1 ho)
  obtain ⟨vs, t, hb, _⟩ := I.ob o cs hcs
  exact (Array.getElem?_eq_some_iff.1 hb).1
theorem Inv.z_fresh (I : Inv P w0 G E h w) {b : Nat} (hb : w.heap.size ≤ b) (j : Nat) : E.Z b j = none := by
  cases hz : E.Z b j with
  | none => rfl
  | some v => have := cell_lt (I.z b j v hz); omega
theorem lookO_cons {o k : Nat} {cs : List AV} {l : List (Nat × List AV)} : lookO o ((k, cs) :: l) = if k = o then some cs else lookO o l := by
  simp only [lookO_con]
  by_cases e : k = o
  · subst e; simp
  · have : Nat.beq k o = false := by cases hb : Nat.beq k o; rfl; exact absurd (Nat.eq_of_beq_eq_true hb) e
    simp [this, e]
theorem lookG_cons {o k : Nat} {g : Nat × TypeId} {l : List (Nat × Nat × TypeId)} : lookG o ((k, g) :: l) = if k = o then some g else lookG o l := by
  simp only [lookG_con]
  by_cases e : k = o
  · subst e; simp
  · have : Nat.beq k o = false := by cases hb : Nat.beq k o; rfl; exact absurd (Nat.eq_of_beq_eq_true hb) e
    simp [this, e]
theorem cnt_cons {o k : Nat} {cs : List AV} {l : List (Nat × List AV)} : cnt o ((k, cs) :: l) = if k = o then cnt o l + 1 else cnt o l := by
  simp only [cnt_con]
  by_cases e : k = o
  · subst e; simp
  · have : Nat.beq k o = false := by cases hb : Nat.beq k o; rfl; exact absurd (Nat.eq_of_beq_eq_true hb) e
    simp [this, e]

/-- a block is written -/
theorem Inv.put (I : Inv P w0 G E h w) {o : Nat} {cs cs' : List AV} (ho : lookO o h.ob = some cs) {w' : World} (hk : Kpt w w' (fun k => k = E.β o)) {vs' : List Value} {t : Obj} (hb : w'.heap[E.β o]? = some t)
    (hr : RelL E cs' vs') (h1 : ObOk t vs') : Stepd P w0 G E h w E { h with ob := (o, cs') :: h.ob } w' := by
  have hlo : E.live o := (I.live o).2 (by rw [ho]; rfl)
  have hother : ∀ k, k < w.heap.size → k ≠ E.β o → w'.heap[k]? = w.heap[k]? := fun k hk1 hne => hk.block k hk1 hne
  refine ⟨Ext.refl E, ⟨I.kpt.then hk (by rintro k rfl; exact I.own o hlo), I.m, I.ng, I.gn, I.gnlt, fun p => ?_, I.nx, fun p cp hp => ?_, I.own, I.inj, fun b j v hz => ?_, I.zob, fun k hkn => ?_, I.vinj⟩, fun p hp => ?_, fun _ _ _ hz => .inl hz⟩
  · rw [lookO_cons]
    split
    · rename_i e; subst e; simp [hlo]
    · exact I.live p
  · rw [lookO_cons] at hp
    split at hp
    · rename_i e; subst e; cases hp; exact ⟨vs', t, hb, hr, h1⟩
    · rename_i e
      obtain ⟨vs, t', g1, g2, g3⟩ := I.ob p cp hp
      have hlp : E.live p := (I.live p).2 (by rw [hp]; rfl)
      exact ⟨vs, t', (hother _ (I.live_lt hlp) (fun e' => e (I.inj _ _ hlo hlp e'.symm))).trans g1, g2, g3⟩
  · have hne : b ≠ E.β o := fun e => by rw [e, I.zob o j hlo] at hz; cases hz
    have hc := I.z b j v hz
    rw [cell_same (hother b (cell_lt hc) hne)]; exact hc
  · obtain ⟨sz, n, xs, g1, g2, g3, g4⟩ := I.vec k hkn
    exact ⟨sz, n, xs, g1, owns_same g2 fun b hb' => hother b (owns_lt g2 hb') fun e => (g4 b hb').2.1 o hlo e.symm, g3, g4⟩
  · simp only [ver, cnt_cons]
    split
    · exact ⟨by omega, fun e => by omega⟩
    · rename_i e
      exact ⟨Nat.le_refl _, fun _ => hother _ (I.live_lt hp) fun e' => e (I.inj _ _ hlo hp e'.symm)⟩
theorem toK {α : Type} (f : D → α) {x : α} (kn : Bool) {d e : D} (h1 : x = f d) (h2 : x = f e) : x = f (bif kn then d else e) := by cases kn <;> assumption
theorem confA_ok {s : Sh} {x : AV} {d : D} {v : Value} (hc : confA s x = some d) (hr : Rel E x v) : LF E.Z s v d := by
  unfold confA at hc
  split at hc
  · rename_i k _ k' n
    cases hk : decide (k = k')
    · rw [hk] at hc; cases hc
    · rw [hk] at hc
      cases hc
      obtain rfl := of_decide_eq_true hk
      exact hr.1.trans (congrArg _ (toK _ _ rfl rfl))
  · cases hc; exact hr.1.trans (congrArg _ (toK _ _ rfl rfl))
  · cases hc; exact hr.1.trans (congrArg _ (toK _ _ rfl rfl))
  · rename_i es _ es' d' _
    cases hk : Sh.eqsL es es'
    · rw [hk] at hc; cases hc
    · rw [hk] at hc
      cases hc
      obtain rfl := Sh.eqsL_eq _ _ hk
      obtain ⟨g0, ad, cap, g1, g2, g3, g4, g5⟩ := hr.1
      refine ⟨by rw [D.mkK_len]; exact g0, ad, cap, by rw [D.mkK_len]; exact g1, by rw [D.mkK_len]; exact g2, g3, g4, fun hn => ?_⟩
      rw [D.mkK_len] at hn
      obtain ⟨b, o, g6, g7⟩ := g5 hn
      refine ⟨b, o, g6, fun i hi => ?_⟩
      rw [D.mkK_len] at hi
      rw [D.mkK_get]; exact g7 i hi
  · cases hc
    obtain ⟨rfl, _⟩ := hr
    exact ⟨by simp [D.len, D.toL, D.raw], none, 0, rfl, Nat.le_refl _, Nat.zero_le _, fun _ => rfl, fun hn => absurd (by simp [D.len, D.toL, D.raw]) hn⟩
  · cases hc
theorem toL_l {ds : List D} (h : ds.length ≤ maxLen) : (D.l ds).toL = ds := List.take_of_length_le h
/-! Rows that may change. -/
theorem setE_toL (d : D) (i : Nat) (e : D) : (d.setE i e).toL = d.toL.set i e := toL_l (by rw [List.length_set]; exact d.len_le)
theorem setE_len (d : D) (i : Nat) (e : D) : (d.setE i e).len = d.len := by unfold D.len; rw [setE_toL, List.length_set]
theorem setE_get {d : D} {i : Nat} {e : D} (hi : i < d.len) (q : Nat) : (d.setE i e).get q = if q = i then e else d.get q := by
  unfold D.get
  rw [setE_toL, List.getD_eq_getElem?_getD, List.getElem?_set, List.getD_eq_getElem?_getD]
  by_cases h : q = i
  · subst h
    have : q < d.toL.length := hi
    simp [this]
  · rw [if_neg (Ne.symm h), if_neg h]
theorem re_iff {Z : Nat → Nat → Option Value} {cs : Array Value} : ∀ {es : List Sh} {p : Nat} {d : D} {j : Nat}, RE Z es cs p d j ↔ ∀ k s, es[k]? = some s → ∃ v, cs[p + k]? = some v ∧ LF Z s v (d.cell (j + k))
  | [], p, d, j => by simp [RE]
  | s :: es, p, d, j => by
    constructor
    · rintro ⟨h1, h2⟩ k s' hk
      cases k with
      | zero => cases hk; exact h1
      | succ k =>
        have := re_iff.1 h2 k s' (by simpa using hk)
        rwa [show p + 1 + k = p + (k + 1) by omega, show j + 1 + k = j + (k + 1) by omega] at this
    · intro h
      refine ⟨h 0 s rfl, re_iff.2 fun k s' hk => ?_⟩
      have := h (k + 1) s' (by simpa using hk)
      rwa [show p + (k + 1) = p + 1 + k by omega, show j + (k + 1) = j + 1 + k by omega] at this
theorem confL_at : ∀ {ss : List Sh} {xs : List AV} {ds : List D} {vs : List Value}, confL ss xs = some ds → RelL E xs vs → ds.length = ss.length ∧ ∀ k s, ss[k]? = some s → ∃ v, vs[k]? = some v ∧ LF E.Z s v (ds.getD k .n)
  | [], [], ds, _, hc, _ => by simp only [confL] at hc; cases hc; simp
  | s :: ss, x :: xs, ds, vs, hc, hr => by
    simp only [confL] at hc
    split at hc
    · rename_i d ds' h1 h2
      cases hc
      obtain ⟨v, vs', rfl, g1, g2⟩ := hr
      obtain ⟨h3, h4⟩ := confL_at h2 g2
      refine ⟨by simp [h3], fun k s' hk => ?_⟩
      cases k with
      | zero => cases hk; exact ⟨v, rfl, confA_ok h1 g1⟩
      | succ k => simpa using h4 k s' (by simpa using hk)
    · cases hc
  | [], _ :: _, _, _, hc, _ => by simp [confL] at hc
  | _ :: _, [], _, _, hc, _ => by simp [confL] at hc
theorem putC_ge {e : D} {j : Nat} : ∀ {es : List Sh} {ds : List D} {k m : Nat}, j ≤ k → m < es.length → (putC es k j ds e).getD m .n = if m < ds.length then ds.getD m .n else e.cell (k + m)
  | [], _, k, m, _, h => by simp at h
  | s :: es, [], k, m, hj, h => by
    cases m with
    | zero => simp [putC]
    | succ m =>
      simp only [putC, List.getD_cons_succ]
      rw [putC_ge (by omega) (by simpa using h)]
      simp only [List.length_nil, Nat.not_lt_zero, if_false]
      rw [show k + 1 + m = k + (m + 1) by omega]
  | s :: es, x :: r, k, m, hj, h => by
    have e1 : Nat.ble j k = true := Nat.ble_eq_true_of_le hj
    simp only [putC, e1, cond_true]
    cases m with
    | zero => simp
    | succ m =>
      simp only [List.getD_cons_succ]
      rw [putC_ge (by omega) (by simpa using h), show k + 1 + m = k + (m + 1) by omega]
      simp only [List.length_cons, Nat.add_lt_add_iff_right]
theorem putC_get {e : D} {j : Nat} : ∀ {es : List Sh} {ds : List D} {k m : Nat}, k ≤ j → m < es.length → (putC es k j ds e).getD m .n = if j ≤ k + m ∧ k + m < j + ds.length then ds.getD (k + m - j) .n else e.cell (k + m)
  | es, ds, k, m, hk, h => by
    by_cases hkj : k = j
    · subst hkj
      rw [putC_ge (Nat.le_refl _) h]
      by_cases hm : m < ds.length
      · rw [if_pos hm, if_pos (by omega), show k + m - k = m by omega]
      · rw [if_neg hm, if_neg (by omega)]
    · match es, h with
      | s :: es, h =>
        have e1 : Nat.ble j k = false := by
          cases hb : Nat.ble j k
          · rfl
          · have := Nat.le_of_ble_eq_true hb; omega
        have hp : putC (s :: es) k j ds e = e.cell k :: putC es (k + 1) j ds e := by
          cases ds with
          | nil => simp only [putC]
          | cons x r => simp only [putC, e1, cond_false]
        rw [hp]
        cases m with
        | zero => rw [if_neg (by omega)]; simp
        | succ m =>
          simp only [List.getD_cons_succ]
          rw [putC_get (by omega) (by simpa using h), show k + 1 + m = k + (m + 1) by omega]
theorem putAt_get {xs new : List Value} {o : Nat} (h : o + new.length ≤ xs.length) (k : Nat) : (putAt xs o new)[k]? = if o ≤ k ∧ k < o + new.length then new[k - o]? else xs[k]? := by
  unfold putAt
  have hl : (xs.take o).length = o := by rw [List.length_take]; omega
  by_cases h1 : k < o
  · rw [if_neg (by omega), List.append_assoc, List.getElem?_append_left (by omega), List.getElem?_take_of_lt h1]
  · by_cases h2 : k < o + new.length
    · rw [if_pos ⟨by omega, h2⟩, List.append_assoc, List.getElem?_append_right (by omega), hl, List.getElem?_append_left (by omega)]
    · rw [if_neg (by omega), List.getElem?_append_right (by simp only [List.length_append, hl]; omega), List.getElem?_drop]
      congr 1
      simp only [List.length_append, hl]
      omega
theorem storeA_ok {K : Hp → Prop} {t : TypeId} {x y : AV} {vx vy : Value} (H : (storeA P t x y h).holds K) (I : Inv P w0 G E h w) (hx : Rel E x vx) (hy : Rel E y vy) :
    ∃ h' w', K h' ∧ (Instr.storeAt t vx vy).run P w = .ok () w' ∧ Stepd P w0 G E h w E h' w' := by
  unfold storeA at H
  split at H
  · rename_i n o off new hn hc
    obtain ⟨hl, rfl⟩ := hx
    split at H
    · rename_i cs hcs
      cases hb : isVar cs && Nat.beq new.length n && Nat.ble (off + n) cs.length
      · rw [hb] at H; exact H.elim
      · rw [hb] at H
        simp only [Bool.and_eq_true] at hb
        obtain ⟨⟨hvar, hb1⟩, hb2⟩ := hb
        have hb := And.intro hb1 hb2
        obtain rfl := Nat.eq_of_beq_eq_true hb.1
        have hle := Nat.le_of_ble_eq_true hb.2
        obtain ⟨vs, ob, hblk, hrel, hok⟩ := I.ob o cs hcs
        obtain ⟨ty, rfl, h1⟩ := ob_cells hvar hrel hok
        obtain ⟨g1, g2⟩ := rel_cells hy hc
        have l1 : new.length = vy.cells.toList.length := g1.length
        have l2 : cs.length = vs.length := hrel.length
        obtain ⟨w', e1, e2, e3⟩ := run_storeCells (P := P) vy.cells.toList vs off 0 w hblk (by omega) g2
        refine ⟨_, w', H, ?_, I.put hcs e3 (vs' := putAt vs (off + 0) vy.cells.toList) e2 ?_ ?_⟩
        · have hsz : ¬ vy.cells.size ≠ new.length := by simpa using l1.symm
          simp [Instr.storeAt, Instr.sureAddr, storeVar, run_sizeOf hn, e1]
          omega
        · unfold putAt
          rw [l1]
          exact ((hrel.take off).append g1).append (hrel.drop _)
        · refine .inl ⟨_, rfl, ?_⟩
          intro u hu
          unfold putAt at hu
          simp only [List.mem_append] at hu
          rcases hu with (hu | hu) | hu
          · exact h1 u (List.mem_of_mem_take hu)
          · exact g2 u hu
          · exact h1 u (List.mem_of_mem_drop hu)
    · exact H.elim
  · rename_i n kn o m i j new hn hc
    obtain ⟨hl, rfl⟩ := hx
    split at H
    · rename_i es d hrow
      obtain ⟨hlk, cs, ty, hblk, hbd, hre⟩ := row_ob I hrow
      cases hb : Nat.beq m es.length && Nat.beq new.length n && Nat.ble (j + n) es.length && Nat.ble 1 es.length
      · rw [hb] at H; exact H.elim
      rw [hb] at H
      simp only [Bool.and_eq_true] at hb
      obtain ⟨⟨⟨hb1, hb2⟩, hb3⟩, hb4⟩ := hb
      obtain rfl := Nat.eq_of_beq_eq_true hb1
      obtain rfl := Nat.eq_of_beq_eq_true hb2
      have hpos := Nat.le_of_ble_eq_true hb4
      have hle := Nat.le_of_ble_eq_true hb3
      simp only [cond_true] at H
      split at H
      · rename_i ds hconf
        obtain ⟨hc', H⟩ := need_holds H
        have hi := of_decide_eq_true hc'
        obtain ⟨g1, g2⟩ := rel_cells hy hc
        have l1 : new.length = vy.cells.toList.length := g1.length
        obtain ⟨hdl, hat⟩ := confL_at hconf g1
        have hssl : ((es.drop j).take new.length).length = new.length := by rw [List.length_take, List.length_drop]; omega
        have l1' : new.length = vy.cells.size := by simpa using l1
        have hin : i * es.length + j + vy.cells.toList.length ≤ cs.toList.length := by
          obtain ⟨v, hv, _⟩ := re_iff.1 (hre i hi) (es.length - 1) es[es.length - 1] (List.getElem?_eq_getElem (by omega))
          have := (Array.getElem?_eq_some_iff.1 hv).1
          simp only [Array.length_toList]
          omega
        obtain ⟨w', e1, e2, e3⟩ := run_storeCells (P := P) vy.cells.toList cs.toList (i * es.length + j) 0 w (t := ty) (by simpa using hblk) (by simpa using hin) g2
        refine ⟨_, w', H, ?_, I.put hlk e3 (vs' := [.agg (putAt cs.toList (i * es.length + j) vy.cells.toList).toArray]) e2 ?_ ?_⟩
        · have hsz : ¬ vy.cells.size ≠ new.length := by simpa using l1.symm
          simp [Instr.storeAt, Instr.sureAddr, storeVar, run_sizeOf hn, e1]
          omega
        · refine ⟨_, [], rfl, ⟨by rw [setE_len]; exact hbd, _, rfl, fun q hq => ?_⟩, rfl⟩
          rw [setE_len] at hq
          refine re_iff.2 fun k s hk => ?_
          have hkl := (List.getElem?_eq_some_iff.1 hk).1
          obtain ⟨v, hv, hlf⟩ := re_iff.1 (hre q hq) k s hk
          have hput := putAt_get (xs := cs.toList) (new := vy.cells.toList) hin (q * es.length + k)
          simp only [List.getElem?_toArray]
          rw [hput, setE_get hi]
          by_cases hqi : q = i
          · subst hqi
            rw [if_pos rfl]
            simp only [D.cell, Nat.zero_add]
            rw [putC_get (Nat.zero_le _) hkl, Nat.zero_add]
            by_cases hk2 : j ≤ k ∧ k < j + ds.length
            · rw [if_pos hk2, if_pos (by omega)]
              obtain ⟨v', hv', hlf'⟩ := hat (k - j) s (by rw [List.getElem?_take_of_lt (by omega), List.getElem?_drop, show j + (k - j) = k by omega]; exact hk)
              exact ⟨v', by rw [show q * es.length + k - (q * es.length + j) = k - j by omega]; exact hv', hlf'⟩
            · rw [if_neg hk2, if_neg (by omega)]
              exact ⟨v, by simpa using hv, by simpa using hlf⟩
          · rw [if_neg hqi, if_neg ?_]
            · exact ⟨v, by simpa using hv, hlf⟩
            · rintro ⟨h1, h2⟩
              rcases Nat.lt_or_gt_of_ne hqi with h | h
              · have := Nat.mul_le_mul_right es.length (show q + 1 ≤ i by omega)
                rw [Nat.add_mul, Nat.one_mul] at this
                omega
              · have := Nat.mul_le_mul_right es.length (show i + 1 ≤ q by omega)
                rw [Nat.add_mul, Nat.one_mul] at this
                omega
        · exact .inr (.inr ⟨_, _, rfl, rfl⟩)
      · exact H.elim
    · exact H.elim
  · exact H.elim

/-- a new variable -/
theorem newO_ok {cs : List AV} {vs : List Value} (t : Obj) (I : Inv P w0 G E h w) (hr : RelL E cs vs) (h1 : ObOk t vs) :
    ∃ E', Stepd P w0 G E h w E' (newA cs h).2 (w.alloc t) ∧ E'.live h.nx ∧ E'.β h.nx = w.heap.size := by
  have hnl : ¬ E.live h.nx := fun hl => by have := I.nx _ hl; omega
  have hext : Ext E { E with β := fun o => if o = h.nx then w.heap.size else E.β o, live := fun o => E.live o ∨ o = h.nx } :=
    ⟨fun o ho => .inl ho, fun o ho => if_neg fun e : o = h.nx => hnl (e ▸ ho), fun _ _ _ hz => hz, Nat.le_refl _, Nat.le_refl _, fun _ _ => .inl ⟨rfl, rfl⟩⟩
  have hold : ∀ k, k < w.heap.size → (w.alloc t).heap[k]? = w.heap[k]? := fun k hk => alloc_old _ hk
  have hlt : ∀ o, E.live o → E.β o ≠ w.heap.size := fun o ho => by have := I.live_lt ho; omega
  refine ⟨_, ⟨hext, ⟨I.kpt.then (S := fun _ => False) ⟨rfl, rfl, rfl, by simp, fun k hk _ => hold k hk⟩ (fun _ hf => hf.elim), I.m, I.ng, I.gn, I.gnlt, fun p => ?_, fun p hp => ?_, fun p cp hp => ?_, fun p hp => ?_, fun p q hp hq => ?_, fun b j v hz => ?_, fun p j hp => ?_, fun k hkn => ?_, I.vinj⟩, fun p hp => ?_, fun _ _ _ hz => .inl hz⟩, .inr rfl, by simp⟩
  · simp only [newA, lookO_cons]
    split
    · rename_i e; subst e; simp
    · rename_i e
      rw [← I.live p]
      exact ⟨fun hh => hh.resolve_right fun e' => e e'.symm, .inl⟩
  · rcases hp with hp | rfl
    · have := I.nx p hp; simp only [newA]; omega
    · simp only [newA]; omega
  · simp only [newA, lookO_cons] at hp
    split at hp
    · rename_i e; subst e; cases hp
      exact ⟨vs, t, by simp only [if_pos]; exact heap_alloc_new w _, RelL.mono hext _ _ hr, h1⟩
    · rename_i e
      obtain ⟨us, t', g1, g2, g3⟩ := I.ob p cp hp
      have hlp : E.live p := (I.live p).2 (by rw [hp]; rfl)
      refine ⟨us, t', ?_, RelL.mono hext _ _ g2, g3⟩
      simp only [if_neg (fun e' : p = h.nx => e (Eq.symm e'))]
      exact (hold _ (I.live_lt hlp)).trans g1
  · rcases hp with hp | rfl
    · simp only [if_neg (fun e : p = h.nx => hnl (e ▸ hp))]; exact I.own p hp
    · simp only [if_pos]; exact .inl I.kpt.size
  · intro e
    by_cases ep : p = h.nx <;> by_cases eq : q = h.nx
    · rw [ep, eq]
    · simp only [ep, eq, if_pos, if_neg, not_false_eq_true] at e
      exact absurd e.symm (hlt q (hq.resolve_right eq))
    · simp only [ep, eq, if_pos, if_neg, not_false_eq_true] at e
      exact absurd e (hlt p (hp.resolve_right ep))
    · simp only [if_neg ep, if_neg eq] at e
      exact I.inj p q (hp.resolve_right ep) (hq.resolve_right eq) e
  · have hc := I.z b j v hz
    rw [cell_same (hold b (cell_lt hc))]; exact hc
  · by_cases ep : p = h.nx
    · simp only [if_pos ep]; exact I.z_fresh (Nat.le_refl _) j
    · simp only [if_neg ep]; exact I.zob p j (hp.resolve_right ep)
  · obtain ⟨sz, n, xs, g1, g2, g3, g4⟩ := I.vec k hkn
    refine ⟨sz, n, xs, g1, owns_same g2 fun b hb' => hold b (owns_lt g2 hb'), g3, fun b hb' => ⟨(g4 b hb').1, fun o ho => ?_, (g4 b hb').2.2⟩⟩
    by_cases ep : o = h.nx
    · simp only [if_pos ep]; have := owns_lt g2 hb'; omega
    · simp only [if_neg ep]; exact (g4 b hb').2.1 o (ho.resolve_right ep)
  · have : p ≠ h.nx := fun e => hnl (e ▸ hp)
    simp only [ver, newA, cnt_cons, if_neg (fun e : h.nx = p => this (Eq.symm e))]
    exact ⟨Nat.le_refl _, fun _ => hold _ (I.live_lt hp)⟩
theorem newA_ok {cs : List AV} {vs : List Value} (t : TypeId) (I : Inv P w0 G E h w) (hr : RelL E cs vs) (h1 : ∀ u ∈ vs, u.oneCell' = true) :
    ∃ E', Stepd P w0 G E h w E' (newA cs h).2 (w.alloc (.cells vs.toArray t)) ∧ Rel E' (newA cs h).1 (.pointer (some ⟨w.heap.size, 0, none⟩)) := by
  obtain ⟨E', g1, g2, g3⟩ := newO_ok (.cells vs.toArray t) I hr (.inl ⟨t, rfl, h1⟩)
  exact ⟨E', g1, g2, by rw [g3]⟩

/-! Maps. -/
theorem newM_ok (I : Inv P w0 G E h w) : ∃ E', Stepd P w0 G E h w E' (newM h).2 (w.alloc (.map #[] 0)) ∧ Rel E' (newM h).1 (.map (some w.heap.size)) := by
  obtain ⟨E', g1, g2, g3⟩ := newO_ok (cs := [.tup []]) (vs := [.tuple #[]]) (.map #[] 0) I ⟨_, _, rfl, ⟨#[], rfl, rfl⟩, rfl⟩ (.inr (.inl ⟨#[], 0, rfl, rfl⟩))
  exact ⟨E', g1, g2, by rw [g3]⟩
theorem flat_cons (e : MapEntry) (es : List MapEntry) : flat (e :: es) = e.key :: e.val :: flat es := rfl
theorem findE_ok {K : Option (Nat × AV) → Prop} {k : IntKind} {kn : Bool} {n : Int} {kk : IntKind} : ∀ {kvs : List AV} {es : List MapEntry} {i : Nat}, RelL E kvs (flat es) → (findE k kn n kvs i).holds K →
    ∃ r r', K r ∧ Instr.findNow (.int kk) (.int k n) es i = some r' ∧ match r with
      | none => r' = none
      | some (j, av) => ∃ v q e, r' = some (j, v) ∧ Rel E av v ∧ j = i + q ∧ es[q]? = some e ∧ e.key = .int k n
  | [], [], i, _, H => ⟨_, none, H, rfl, rfl⟩
  | [], e :: es, i, hr, _ => by have : (e.key :: e.val :: flat es) = [] := hr; cases this
  | x :: xs, [], i, hr, _ => by obtain ⟨_, _, h, _⟩ := hr; cases h
  | [x], e :: es, i, hr, _ => by obtain ⟨_, _, h, _, h2⟩ := hr; cases h; cases h2
  | x :: y :: r, e :: es, i, hr, H => by
    obtain ⟨v, vs', h1, h2, u, us', h3, h4, h5⟩ := hr
    subst h3
    rw [flat_cons] at h1
    obtain ⟨hk, hv⟩ := List.cons.inj h1
    obtain ⟨hv, hes⟩ := List.cons.inj hv
    subst hk hv hes
    cases x with
    | sc k1 ux =>
      cases ux with
      | int k' m =>
        simp only [findE] at H
        have e1 : e.key = .int k' m := h2.1
        cases hd : decide (k = k')
        · rw [hd] at H; exact H.elim
        rw [hd] at H
        obtain rfl := of_decide_eq_true hd
        have hs : Instr.sameNow (.int kk) (.int k n) e.key = some (n == m) := by rw [e1]; simp [Instr.sameNow]
        rcases brk_holds H with ⟨hb, H⟩ | ⟨hb, H⟩
        · refine ⟨_, some (i, e.val), H, ?_, e.val, 0, e, rfl, h4, rfl, rfl, ?_⟩
          · simp [Instr.findNow, hs, hb]
          · have : n = m := by simpa using hb
            rw [e1, this]
        · obtain ⟨r1, r', g1, g2, g3⟩ := findE_ok (kk := kk) h5 H
          refine ⟨r1, r', g1, ?_, ?_⟩
          · simp [Instr.findNow, hs, hb, g2]
          · cases r1 with
            | none => exact g3
            | some p =>
              obtain ⟨v, q, e', a1, a2, a3, a4, a5⟩ := g3
              exact ⟨v, q + 1, e', a1, a2, by omega, by simpa using a4, a5⟩
      | _ => exact H.elim
    | _ => exact H.elim
theorem run_checkKey_int {kt : TypeId} {kk : IntKind} (hk : P.underlying kt = some (.int kk)) (w : World) (b : Bool) (v : Value) : (Instr.checkKey b 10000 kt v).run P w = .ok () w := by
  rw [show (10000 : Nat) = 9999 + 1 from rfl, Instr.checkKey]
  simp only [Sem.run_bind, run_underlying hk, Result.andThen_ok]
  simp
theorem run_findKey_int {kt : TypeId} {kk : IntKind} (hk : P.underlying kt = some (.int kk)) (w : World) {v : Value} {es : List MapEntry} {r : Option (Nat × Value)} (h : Instr.findNow (.int kk) v es 0 = some r) : (Instr.findKey kt v es).run P w = .ok r w := by
  unfold Instr.findKey
  simp only [Sem.run_bind, run_underlying hk, Result.andThen_ok, h, Sem.run_pure]
theorem run_getMap {r : Nat} {es : Array MapEntry} {clock : Nat} (h : w.heap[r]? = some (.map es clock)) : (getObj r).run P w = .ok (.map es clock) w := by simp [getObj, Sem.run, h]
def World.setOb (w : World) (M : Nat) (o : Obj) : World := { w with heap := w.heap.setIfInBounds M o }
theorem run_setMap {r : Nat} {es : Array MapEntry} {clock : Nat} (h : w.heap[r]? = some (.map es clock)) (es' : Array MapEntry) (c' : Nat) : (setObj r (.map es' c')).run P w = .ok () (World.setOb w r (.map es' c')) := by
  simp [setObj, Sem.run, h, World.setOb]
theorem setOb_at {M : Nat} {o' : Obj} (h : w.heap[M]? = some o') (o : Obj) : (World.setOb w M o).heap[M]? = some o := by
  have := (Array.getElem?_eq_some_iff.1 h).1
  simp [World.setOb, this]
theorem kpt_setOb (w : World) (M : Nat) (o : Obj) : Kpt w (World.setOb w M o) (fun k => k = M) :=
  ⟨rfl, rfl, rfl, by simp [World.setOb], fun k _ hn => by simp [World.setOb, Array.getElem?_setIfInBounds_ne (fun e => hn e.symm)]⟩
theorem mapOf_ok (I : Inv P w0 G E h w) {o : Nat} {kvs : List AV} (H : mapOf o h = some kvs) : lookO o h.ob = some [.tup kvs] ∧ ∃ es clock, w.heap[E.β o]? = some (.map es clock) ∧ RelL E kvs (flat es.toList) := by
  unfold mapOf at H
  split at H
  · rename_i l hl
    cases H
    refine ⟨hl, ?_⟩
    obtain ⟨vs, ob, g1, g2, g3⟩ := I.ob o _ hl
    obtain ⟨v, vs', rfl, ⟨us, rfl, hus⟩, hvs⟩ := g2
    have hvs : vs' = [] := hvs
    subst hvs
    rcases g3 with ⟨t, _, h⟩ | ⟨es, clock, rfl, h⟩ | ⟨_, _, _, h⟩
    · have := h (.tuple us) (by simp); cases this
    · simp only [List.cons.injEq, Value.tuple.injEq, and_true] at h
      subst h
      exact ⟨es, clock, g1, by simpa using hus⟩
    · cases h
  · cases H
theorem lookupA_ok {K : AV → Prop} {t : TypeId} {m k : AV} {two : Bool} {vm vk : Value} (H : (lookupA P t m k two h).holds K) (I : Inv P w0 G E h w) (hm : Rel E m vm) (hk : Rel E k vk) :
    ∃ av u, K av ∧ (Instr.lookup t vm vk two).run P w = .ok u w ∧ Rel E av u := by
  unfold lookupA at H
  split at H
  · rename_i kt vt o kn kk n hu
    obtain ⟨hl, rfl⟩ := hm
    obtain rfl := rel_int hk
    split at H
    · rename_i k2 kvs hkt hmo
      obtain ⟨hlo, es, clock, g1, g2⟩ := mapOf_ok I hmo
      rw [RT.holds_bind] at H
      obtain ⟨r, r', a1, a2, a3⟩ := findE_ok (kk := k2) g2 H
      have hrun : ∀ (q : Value × Bool), (match r' with | some (_, v) => q = (v, true) | none => ∃ z, (zeroValue vt).run P w = .ok z w ∧ q = (z, false)) → (Instr.lookup t (.map (some (E.β o))) (.int kk n) two).run P w = .ok (if two = true then .tuple #[q.1, .bool q.2] else q.1) w := by
        intro q hq
        unfold Instr.lookup
        simp only [Sem.run_bind, run_underlying hu, Result.andThen_ok, run_getMap g1, Sem.run_pure, run_checkKey_int hkt, run_findKey_int hkt w a2]
        cases r' with
        | none => obtain ⟨z, hz, rfl⟩ := hq; simp only [Sem.run_bind, hz, Result.andThen_ok, Sem.run_pure]
        | some p => subst hq; simp only [Sem.run_bind, Result.andThen_ok, Sem.run_pure]
      cases r with
      | none =>
        have a3 : r' = none := a3
        subst a3
        simp only at a1
        split at a1
        · rename_i z hz
          have hzr : (zeroValue vt).run P w = .ok z w := by
            cases hi : P.info? vt with
            | none => rw [hi] at hz; cases hz
            | some i => rw [hi] at hz; simp [zeroValue, typeInfo, hi, show i.zero = some z from hz]
          refine ⟨_, _, a1, hrun (z, false) ⟨z, hzr, rfl⟩, ?_⟩
          cases two
          · exact rel_const z
          · exact ⟨_, rfl, _, _, rfl, rel_const z, _, _, rfl, ⟨rfl, rfl⟩, rfl⟩
        · exact a1.elim
      | some p =>
        obtain ⟨j, av⟩ := p
        obtain ⟨v, q, e, rfl, b2, b3, b4, b5⟩ := a3
        refine ⟨_, _, a1, hrun (v, true) rfl, ?_⟩
        cases two
        · exact b2
        · exact ⟨_, rfl, _, _, rfl, b2, _, _, rfl, ⟨rfl, rfl⟩, rfl⟩
    · exact H.elim
  · exact H.elim
theorem setE_rel {k v : AV} {vk vv : Value} (hk : Rel E k vk) (hv : Rel E v vv) : ∀ {kvs : List AV} {es : List MapEntry} {q : Nat} {e : MapEntry}, RelL E kvs (flat es) → es[q]? = some e → RelL E (setE k v kvs q) (flat (es.modify q fun e => ⟨vk, vv, e.born⟩))
  | _, [], q, e, _, h => by simp at h
  | [], e :: es, _, _, hr, _ => by have : (e.key :: e.val :: flat es) = [] := hr; cases this
  | [x], e :: es, _, _, hr, _ => by obtain ⟨_, _, h, _, h2⟩ := hr; cases h; cases h2
  | x :: y :: r, e :: es, q, e', hr, h => by
    obtain ⟨v1, vs', h1, h2, u, us', h3, h4, h5⟩ := hr
    subst h3
    rw [flat_cons] at h1
    obtain ⟨hk1, hv1⟩ := List.cons.inj h1
    obtain ⟨hv1, hes⟩ := List.cons.inj hv1
    subst hk1 hv1 hes
    cases q with
    | zero => exact ⟨_, _, rfl, hk, _, _, rfl, hv, h5⟩
    | succ q => exact ⟨_, _, rfl, h2, _, _, rfl, h4, setE_rel hk hv h5 (by simpa using h)⟩
theorem updateA_ok {K : Hp → Prop} {t : TypeId} {m k x : AV} {vm vk vx : Value} (H : (updateA P t m k x h).holds K) (I : Inv P w0 G E h w) (hm : Rel E m vm) (hk : Rel E k vk) (hx : Rel E x vx) :
    ∃ h' w', K h' ∧ (Instr.mapUpdate t vm vk vx).run P w = .ok () w' ∧ Stepd P w0 G E h w E h' w' := by
  unfold updateA at H
  split at H
  · rename_i kt vt o kn kk n hu
    obtain ⟨hl, rfl⟩ := hm
    have hk' := hk
    obtain rfl := rel_int hk
    split at H
    · rename_i k2 kvs hkt hmo
      obtain ⟨hlo, es, clock, g1, g2⟩ := mapOf_ok I hmo
      rw [RT.holds_bind] at H
      obtain ⟨r, r', a1, a2, a3⟩ := findE_ok (kk := k2) g2 H
      cases r with
      | none =>
        have a3 : r' = none := a3
        subst a3
        refine ⟨_, _, a1, ?_, I.put hlo (kpt_setOb w _ (.map (es.push ⟨.int kk n, vx, clock⟩) (clock + 1))) (setOb_at g1 _) (vs' := [.tuple (flat (es.push ⟨.int kk n, vx, clock⟩).toList).toArray]) ?_ (.inr (.inl ⟨_, _, rfl, rfl⟩))⟩
        · unfold Instr.mapUpdate
          simp only [Sem.run_bind, run_underlying hu, Result.andThen_ok, run_getMap g1, run_checkKey_int hkt, run_findKey_int hkt w a2]
          exact run_setMap g1 _ _
        · refine ⟨_, _, rfl, ⟨_, rfl, ?_⟩, rfl⟩
          have : flat (es.push ⟨.int kk n, vx, clock⟩).toList = flat es.toList ++ [.int kk n, vx] := by simp [flat]
          rw [show (flat (es.push ⟨.int kk n, vx, clock⟩).toList).toArray.toList = flat (es.push ⟨.int kk n, vx, clock⟩).toList from rfl, this]
          exact g2.append ⟨_, _, rfl, hk', _, _, rfl, hx, rfl⟩
      | some p =>
        obtain ⟨j, av⟩ := p
        obtain ⟨v, q, e, rfl, b2, b3, b4, b5⟩ := a3
        obtain rfl : j = q := by omega
        have hke : es[j]? = some e := by simpa using b4
        refine ⟨_, _, a1, ?_, I.put hlo (kpt_setOb w _ (.map (es.modify j fun e => ⟨.int kk n, vx, e.born⟩) clock)) (setOb_at g1 _) (vs' := [.tuple (flat (es.modify j fun e => ⟨.int kk n, vx, e.born⟩).toList).toArray]) ?_ (.inr (.inl ⟨_, _, rfl, rfl⟩))⟩
        · unfold Instr.mapUpdate
          simp only [Sem.run_bind, run_underlying hu, Result.andThen_ok, run_getMap g1, run_checkKey_int hkt, run_findKey_int hkt w a2, hke, Option.map_some, Option.getD_some, b5]
          have hsb : Instr.sameBits 10000 (.int kk n) (.int kk n) = true := by simp [Instr.sameBits]
          simp only [Instr.keyThatStays, hsb, if_true, Sem.run_pure, Result.andThen_ok]
          exact run_setMap g1 _ _
        · refine ⟨_, _, rfl, ⟨_, rfl, ?_⟩, rfl⟩
          rw [show (flat (es.modify j fun e => ⟨.int kk n, vx, e.born⟩).toList).toArray.toList = flat (es.modify j fun e => ⟨.int kk n, vx, e.born⟩).toList from rfl, Array.toList_modify]
          exact setE_rel hk' hx g2 (by simpa using hke)
    · exact H.elim
  · exact H.elim
end
end
end Go.Proofs.YtcambhbmobepjaaGreat

namespace Go.Proofs.YtcambhbmobepjaaGreat
set_option linter.unusedSimpArgs false
set_option linter.unusedVariables false
open Go.RowKit
set_option maxRecDepth 10000
noncomputable section
section
variable {P : Program} {E : Env} {F : Tm} {h : Hp} {w w0 : World} {G : Nat → Prop} {a : Act}

/-- a meaning in which slice k grew -/
def Env.grow (E : Env) (k : Nat) (v' : Value) (g : Nat) (e : TypeId) (m : Nat) (xs : List Value) : Env :=
  { E with Z := fun b j => if v'.ownBlock = some b then xs[j]? else E.Z b j, vc := fun i => if i = k then v' else E.vc i, gn := fun i => if i = k then g else E.gn i, ve := fun i => if i = k then e else E.ve i, m := m, ng := g + 1 }
theorem Inv.vec_setG (I : Inv P w0 G E h w) {k m e sz n' : Nat} {v v' : Value} {xs news : List Value} (hk : k < h.nv ∧ m = h.nv ∧ E.vc k = v ∨ k = h.nv ∧ m = h.nv + 1 ∧ v.ownBlock = none)
    (hold : ∀ b, v.ownBlock = some b → (w0.heap.size ≤ b ∨ G b) ∧ (∀ o, E.live o → E.β o ≠ b) ∧ ∀ j, E.Z b j = xs[j]?) (hsz : sizeT P e = some sz)
    {w' : World} (ho : w'.ownsRow 0 e sz v' n' (xs ++ news)) (h1 : ∀ u ∈ xs ++ news, u.oneCell' = true) (hK : Kpt w w' (fun b => v.ownBlock = some b ∧ v'.ownBlock = some b))
    (hat : v'.ownBlock = v.ownBlock ∨ ∃ g, v'.ownBlock = some g ∧ w.heap.size ≤ g) :
    Stepd P w0 G E h w (E.grow k v' h.ng e m (xs ++ news)) { h with gn := (k, h.ng, e) :: h.gn, nv := m, ng := h.ng + 1 } w' := by
  have hm : h.nv ≤ m := by rcases hk with ⟨_, rfl, _⟩ | ⟨_, rfl, _⟩ <;> omega
  have hkm : k < m := by rcases hk with ⟨h1, rfl, _⟩ | ⟨rfl, rfl, _⟩ <;> omega
  have hb' : ∀ b, v'.ownBlock = some b → (v.ownBlock = some b) ∨ w.heap.size ≤ b := fun b hb => by
    rcases hat with e | ⟨g, e, hg⟩
    · exact .inl (e ▸ hb)
    · rw [e] at hb; cases hb; exact .inr hg
  have hsame : ∀ b, b < w.heap.size → v'.ownBlock ≠ some b → w'.heap[b]? = w.heap[b]? := fun b hb hne => hK.block b hb fun hs => hne hs.2
  have hother : ∀ i, i < h.nv → i ≠ k → ∀ b, (E.vc i).ownBlock = some b → v'.ownBlock ≠ some b := fun i hi hne b hbi hbv => by
    rcases hb' b hbv with e | hge
    · rcases hk with ⟨hkn, _, rfl⟩ | ⟨_, _, hnone⟩
      · exact hne (I.vinj i k b hi hkn hbi e)
      · rw [hnone] at e; cases e
    · obtain ⟨_, _, _, _, g2, _⟩ := I.vec i hi
      have := owns_lt g2 hbi; omega
  have hlive : ∀ o, E.live o → v'.ownBlock ≠ some (E.β o) := fun o hlo hbv => by
    rcases hb' _ hbv with e | e
    · exact (hold _ e).2.1 o hlo rfl
    · have := I.live_lt hlo; omega
  have hZ : ∀ b j u, E.Z b j = some u → (if v'.ownBlock = some b then (xs ++ news)[j]? else E.Z b j) = some u := fun b j u hz => by
    split
    · rename_i hbv
      rcases hb' b hbv with e | hge
      · rw [(hold b e).2.2 j] at hz
        rw [List.getElem?_append_left (List.getElem?_eq_some_iff.1 hz).1]; exact hz
      · rw [I.z_fresh hge] at hz; cases hz
    · exact hz
  have hext : Ext E (E.grow k v' h.ng e m (xs ++ news)) := by
    refine ⟨fun _ h => h, fun _ _ => rfl, hZ, by rw [I.m]; exact hm, by rw [I.ng]; exact Nat.le_succ _, fun i hi => ?_⟩
    by_cases e : i = k
    · subst e; right; simp only [Env.grow, if_pos]; rw [I.ng]; exact Nat.le_refl _
    · left; simp only [Env.grow, if_neg e]; exact ⟨trivial, trivial⟩
  refine ⟨hext, ⟨I.kpt.then hK (fun b hb => (hold b hb.1).1), rfl, rfl, fun i hi => ?_, fun i hi => ?_, I.live, I.nx, fun o cs ho' => ?_, I.own, I.inj, fun b j u hz => ?_, fun o j hlo => ?_, fun i hi => ?_, fun i i' b hi hi' hb1 hb2 => ?_⟩, fun o hlo => ⟨Nat.le_refl _, fun _ => hsame _ (I.live_lt hlo) (hlive o hlo)⟩, fun b j u hz => ?_⟩
  · simp only [lookG_cons, Env.grow]
    by_cases e : i = k
    · subst e; simp
    · rw [if_neg (fun h => e h.symm), if_neg e, if_neg e]
      refine I.gn i ?_
      rcases hk with ⟨_, rfl, _⟩ | ⟨rfl, rfl, _⟩
      · exact hi
      · have : i < h.nv + 1 := hi
        omega
  · simp only [Env.grow]
    by_cases e : i = k
    · rw [if_pos e]; omega
    · rw [if_neg e]
      have : i < h.nv := by
        rcases hk with ⟨_, rfl, _⟩ | ⟨rfl, rfl, _⟩
        · exact hi
        · have : i < h.nv + 1 := hi
          omega
      have := I.gnlt i this; omega
  · obtain ⟨vs, t, g1, g2, g3⟩ := I.ob o cs ho'
    have hlo : E.live o := (I.live o).2 (by rw [ho']; rfl)
    exact ⟨vs, t, (hsame _ (I.live_lt hlo) (hlive o hlo)).trans g1, RelL.mono hext _ _ g2, g3⟩
  · simp only [Env.grow] at hz
    split at hz
    · rename_i hbv
      rcases ho.2 with ⟨rfl, _⟩ | ⟨g, cap, cur, rfl, h0, hg, _, _, hcs, htk⟩
      · cases hbv
      · cases hbv
        have := ho.cells (g := g) rfl j u hz
        rwa [addr_add', Nat.zero_add] at this
    · rename_i hbv
      have hc := I.z b j u hz
      rw [cell_same (hsame b (cell_lt hc) hbv)]; exact hc
  · simp only [Env.grow]
    rw [if_neg (hlive o hlo)]; exact I.zob o j hlo
  · simp only [Env.grow]
    by_cases e : i = k
    · simp only [if_pos e]
      refine ⟨sz, n', xs ++ news, hsz, ho, h1, fun b hb => ⟨?_, fun o hlo e' => hlive o hlo (e' ▸ hb), fun j => by rw [if_pos hb]⟩⟩
      rcases hb' b hb with e | hge
      · exact (hold b e).1
      · exact .inl (Nat.le_trans I.kpt.size hge)
    · simp only [if_neg e]
      have hin : i < h.nv := by
        rcases hk with ⟨_, rfl, _⟩ | ⟨rfl, rfl, _⟩
        · exact hi
        · have : i < h.nv + 1 := hi
          omega
      obtain ⟨s, n, ys, g1, g2, g3, g4⟩ := I.vec i hin
      refine ⟨s, n, ys, g1, owns_same g2 fun b hb => hsame b (owns_lt g2 hb) (hother i hin e b hb), g3, fun b hb => ⟨(g4 b hb).1, (g4 b hb).2.1, fun j => ?_⟩⟩
      rw [if_neg (hother i hin e b hb)]; exact (g4 b hb).2.2 j
  · have lt : ∀ i, i < m → i ≠ k → i < h.nv := fun i hi e => by
      rcases hk with ⟨_, rfl, _⟩ | ⟨rfl, rfl, _⟩
      · exact hi
      · omega
    simp only [Env.grow] at hb1 hb2
    by_cases e : i = k <;> by_cases e' : i' = k
    · rw [e, e']
    · simp only [if_pos e, if_neg e'] at hb1 hb2
      exact absurd hb1 (hother i' (lt i' hi' e') e' b hb2)
    · simp only [if_neg e, if_pos e'] at hb1 hb2
      exact absurd hb2 (hother i (lt i hi e) e b hb1)
    · simp only [if_neg e, if_neg e'] at hb1 hb2
      exact I.vinj i i' b (lt i hi e) (lt i' hi' e') hb1 hb2
  · simp only [Env.grow] at hz
    split at hz
    · rename_i hbv
      rcases hb' b hbv with e | hge
      · exact .inr (hold b e).1
      · exact .inr (.inl (Nat.le_trans I.kpt.size hge))
    · exact .inl hz

/-! Elements. -/
theorem Inv.vec_set (I : Inv P w0 G E h w) {k m e sz n' : Nat} {v v' : Value} {xs news : List Value} (hk : k < h.nv ∧ m = h.nv ∧ E.vc k = v ∨ k = h.nv ∧ m = h.nv + 1 ∧ v.ownBlock = none)
    (hold : ∀ b, v.ownBlock = some b → (w0.heap.size ≤ b ∨ G b) ∧ (∀ o, E.live o → E.β o ≠ b) ∧ ∀ j, E.Z b j = xs[j]?) (hsz : sizeT P e = some sz)
    {w' : World} (ho : w'.ownsRow 0 e sz v' n' (xs ++ news)) (h1 : ∀ u ∈ xs ++ news, u.oneCell' = true) (hK : Kpt w w' (fun b => v.ownBlock = some b ∧ v'.ownBlock = some b))
    (hat : v'.ownBlock = v.ownBlock ∨ v'.ownBlock = some w.heap.size) :
    Stepd P w0 G E h w (E.grow k v' h.ng e m (xs ++ news)) { h with gn := (k, h.ng, e) :: h.gn, nv := m, ng := h.ng + 1 } w' :=
  I.vec_setG hk hold hsz ho h1 hK (hat.imp_right fun e => ⟨_, e, Nat.le_refl _⟩)
theorem confL_ok {Z : Nat → Nat → Option Value} (hZ : ∀ b j v, E.Z b j = some v → Z b j = some v) {b : Nat} {e : D} : ∀ {ss : List Sh} {xs : List AV} {ds : List D} {vs : List Value} {o j : Nat}, confL ss xs = some ds → RelL E xs vs → (∀ i v, vs[i]? = some v → Z b (o + i) = some v) →
    (∀ i, i < ds.length → e.cell (j + i) = ds.getD i .n) → EL Z ss b o e j
  | [], [], _, _, _, _, _, _, _, _ => trivial
  | s :: ss, x :: xs, ds, vs, o, j, hc, hr, hz, he => by
    simp only [confL] at hc
    split at hc
    · rename_i d ds' h1 h2
      cases hc
      obtain ⟨v, vs', rfl, g1, g2⟩ := hr
      refine ⟨⟨v, hz 0 v rfl, ?_⟩, confL_ok hZ h2 g2 (fun i u hu => ?_) (fun i hi => ?_)⟩
      · have := he 0 (by simp)
        simp only [Nat.add_zero, List.getD_cons_zero] at this
        rw [this]
        exact LF.mono hZ _ _ _ (confA_ok h1 g1)
      · rw [show o + 1 + i = o + (i + 1) by omega]; exact hz (i + 1) u (by simpa using hu)
      · rw [show j + 1 + i = j + (i + 1) by omega]; simpa using he (i + 1) (by simpa using hi)
    · cases hc
  | [], _ :: _, _, _, _, _, hc, _, _, _ => by simp [confL] at hc
  | _ :: _, [], _, _, _, _, hc, _, _, _ => by simp [confL] at hc
theorem elsA_ok {Z : Nat → Nat → Option Value} (hZ : ∀ b j v, E.Z b j = some v → Z b j = some v) {b : Nat} {es : List Sh} : ∀ {m : Nat} {cs : List AV} {ds : List D} {vs : List Value} {o : Nat}, elsA es m cs = some ds → RelL E cs vs → (∀ i v, vs[i]? = some v → Z b (o + i) = some v) →
    ds.length = m ∧ ∀ i, i < m → EL Z es b (o + i * es.length) (ds.getD i .n) 0
  | 0, cs, ds, vs, o, hc, _, _ => by simp only [elsA] at hc; cases hc; exact ⟨rfl, fun i hi => by omega⟩
  | m + 1, cs, ds, vs, o, hc, hr, hz => by
    simp only [elsA] at hc
    split at hc
    · rename_i d ds' h1 h2
      cases hc
      obtain ⟨g1, g2⟩ := elsA_ok hZ (o := o + es.length) h2 (hr.drop es.length) (fun i u hu => by
        rw [List.getElem?_drop] at hu
        rw [show o + es.length + i = o + (es.length + i) by omega]; exact hz _ u hu)
      refine ⟨by simp [g1], fun i hi => ?_⟩
      cases i with
      | zero =>
        simp only [List.getD_cons_zero, Nat.zero_mul, Nat.add_zero]
        refine confL_ok hZ h1 (hr.take es.length) (fun i u hu => ?_) (fun i hi => ?_)
        · rw [List.getElem?_take] at hu
          split at hu
          · exact hz i u hu
          · cases hu
        · simp [D.cell]
      | succ i =>
        have := g2 i (by omega)
        simp only [List.getD_cons_succ]
        rwa [show o + (i + 1) * es.length = o + es.length + i * es.length by rw [Nat.succ_mul]; omega]
    · cases hc
theorem rep_len {α : Type} (z : List α) (m : Nat) : (rep z m).length = m * z.length := by
  induction m with
  | zero => simp [rep]
  | succ m ih => simp only [rep, List.length_append, ih, Nat.succ_mul]; omega
theorem rep_rel {z : List AV} {vs : List Value} (hr : RelL E z vs) : ∀ m, RelL E (rep z m) (rep vs m)
  | 0 => rfl
  | m + 1 => hr.append (rep_rel hr m)
theorem rep_get {α : Type} (z : List α) : ∀ (m i : Nat), i < m * z.length → (rep z m)[i]? = z[i % z.length]?
  | 0, i, h => by simp at h
  | m + 1, i, h => by
    simp only [rep]
    by_cases hi : i < z.length
    · rw [List.getElem?_append_left hi, Nat.mod_eq_of_lt hi]
    · rw [List.getElem?_append_right (by omega), rep_get z m (i - z.length) (by rw [Nat.succ_mul] at h; omega)]
      congr 1
      exact (Nat.mod_eq_sub_mod (by omega)).symm
theorem rep_zero {z : Array Value} {n m : Nat} (hz : z.size = n) (hn : 0 < n) : ((Array.range (m * n)).map (z[· % z.size]!)).toList = rep z.toList m := by
  refine List.ext_getElem? fun i => ?_
  by_cases hi : i < m * n
  · rw [rep_get _ _ _ (by simpa [hz] using hi)]
    have : i % z.size < z.size := Nat.mod_lt _ (by omega)
    simp [hi, this]
  · rw [List.getElem?_eq_none (by simp; omega), List.getElem?_eq_none (by rw [rep_len]; simp [hz]; omega)]
theorem elemA_ok {t e : TypeId} (h : elemA P t = some e) : P.underlying t = some (.slice e) := by
  unfold elemA at h
  split at h
  · cases h; assumption
  · cases h

theorem buildSliceA_ok {K : AV × Hp → Prop} {t : TypeId} {len : Nat} {ps : Array (Nat × Operand)} {vps : Array (Nat × Value)} (hps : vps.toList = ps.toList.map fun p => (p.1, a.eval p.2)) (hT : RelT E F a) (I : Inv P w0 G E h w) (H : (buildSliceA P t len (ps.toList.map fun p => (p.1, opnd F p.2)) h).holds K) :
    ∃ av h' u w' E', K (av, h') ∧ (Instr.buildSlice t len vps).run P w = .ok u w' ∧ Stepd P w0 G E h w E' h' w' ∧ Rel E' av u := by
  unfold buildSliceA at H
  split at H
  · exact H.elim
  rename_i e he
  have hu := elemA_ok he
  split at H
  · rename_i n z hn hz
    cases hb : Nat.ble (len * n) 16777216 && Nat.beq z.length n && Nat.beq (shE P e).length n && Nat.ble 1 n && Nat.ble (len * szB (shE P e)) room
    · rw [hb] at H; exact H.elim
    rw [hb] at H
    simp only [Bool.and_eq_true, cond_true] at hb H
    obtain ⟨⟨⟨⟨b1, b2⟩, b3⟩, b4⟩, b5⟩ := hb
    have hle := Nat.le_of_ble_eq_true b1
    have hzl := Nat.eq_of_beq_eq_true b2
    have hes := Nat.eq_of_beq_eq_true b3
    have hn1 := Nat.le_of_ble_eq_true b4
    split at H
    · rename_i cs hf
      split at H
      · rename_i ds hds
        obtain ⟨zv, hzr, _, g1, g2⟩ := zeroA_ok (E := E) hz
        have hzs : zv.cells.size = n := by have := g1.length; simp at this; omega
        have hrz := rep_zero (z := zv.cells) (m := len) hzs (by omega)
        obtain ⟨r, e1, e2, e3, e4⟩ := fillA_ok (vs := ps.toList.map fun p => (p.1, a.eval p.2)) (cells := (Array.range (len * n)).map (zv.cells[· % zv.cells.size]!)) hf (by rw [hrz]; exact rep_rel g1 len)
          (by
            rw [hrz]
            intro u hu
            obtain ⟨i, hi⟩ := List.mem_iff_getElem?.1 hu
            have hil := (List.getElem?_eq_some_iff.1 hi).1
            rw [rep_len] at hil
            rw [rep_get _ _ _ hil] at hi
            exact g2 u (List.mem_of_getElem? hi)) (by simp) (fun i p q => rel_parts hT i p q)
        have hrs : r.size = len * n := by rw [e4]; simp
        have hl63 : len ≤ maxLen := by
          have : len * 1 ≤ len * n := Nat.mul_le_mul_left _ hn1
          unfold maxLen; omega
        have hv : (w.alloc (.cells r e)).ownsRow 0 e n (.slice (some ⟨w.heap.size, 0, none⟩) len len) len ([] ++ r.toList) := by
          refine ⟨by simp [hrs], .inr ⟨w.heap.size, len, r, rfl, Nat.zero_le _, ?_, Nat.le_refl _, hl63, hrs, ?_⟩⟩
          · show (w.heap.push _)[w.heap.size]? = _
            simp
          · rw [List.take_of_length_le (by simp [hrs])]; rfl
        have hst := I.vec_set (v := .slice none 0 0) (k := h.nv) (m := h.nv + 1) (.inr ⟨rfl, rfl, rfl⟩) (fun b hb => by cases hb) hn hv (by simpa using e3) ⟨rfl, rfl, rfl, by simp, fun k hk _ => alloc_old _ hk⟩ (.inr rfl)
        obtain ⟨d1, d2⟩ := elsA_ok (Z := (E.grow h.nv (.slice (some ⟨w.heap.size, 0, none⟩) len len) h.ng e (h.nv + 1) ([] ++ r.toList)).Z) hst.ext.Z (b := w.heap.size) (o := 0) hds e2
          (fun i v hv => by simp only [Env.grow, Value.ownBlock, if_pos, List.nil_append, Nat.zero_add]; exact hv)
        have htl : (D.l ds).toL = ds := toL_l (by omega)
        refine ⟨_, _, .slice (some ⟨w.heap.size, 0, none⟩) len len, w.alloc (.cells r e), _, H, ?_, hst, ⟨⟨by unfold D.len; rw [htl, d1]; exact Nat.le_of_ble_eq_true b5, some ⟨w.heap.size, 0, none⟩, len, ?_, ?_, hl63, (by intro hh; cases hh), fun _ => ⟨w.heap.size, 0, rfl, fun i hi => ?_⟩⟩, by simp [Env.grow], by simp [Env.grow], fun _ => by simp [Env.grow]⟩⟩
        · have hne : len * n = 0 ∨ ¬ len * n = 0 := by omega
          unfold Instr.buildSlice
          simp only [Sem.run_bind, run_underlying hu, Result.andThen_ok, run_sizeOf hn]
          rw [if_neg (by omega)]
          rcases hne with h0 | h0
          · have hl0 : len = 0 := by
              rcases Nat.eq_zero_or_pos len with h | h
              · exact h
              · have := Nat.mul_pos h (show 0 < n by omega); omega
            subst hl0
            have hr0 : ∀ (g : Nat → Value), Array.map g (Array.range 0) = #[] := fun g => by simp
            simp only [Nat.zero_mul, hr0] at e1
            simp only [Nat.zero_mul, if_true, Sem.run_bind, Sem.run_pure, Result.andThen_ok, hr0, hps, e1]
            rfl
          · simp only [if_neg h0, Sem.run_bind, hzr, Result.andThen_ok, Sem.run_pure]
            rw [hps, e1]
            rfl
        · unfold D.len; rw [htl, d1]
        · unfold D.len; rw [htl, d1]; exact Nat.le_refl _
        · unfold D.len at hi
          rw [htl, d1] at hi
          have := d2 i hi
          unfold D.get
          rw [htl]
          simpa using this
      · exact H.elim
    · exact H.elim
  · exact H.elim
end
end
end Go.Proofs.YtcambhbmobepjaaGreat

namespace Go.Proofs.YtcambhbmobepjaaGreat
set_option linter.unusedSimpArgs false
set_option linter.unusedVariables false
open Go.RowKit
set_option maxRecDepth 10000
noncomputable section
section
variable {P : Program} {E : Env} {F : Tm} {h : Hp} {w w0 : World} {G : Nat → Prop} {a : Act}

theorem run_append_own2 {t e : TypeId} {i : TypeInfo} {zv : Value} (ht : P.underlying t = some (.slice e)) (hi : P.info? e = some i) (hz : i.zero = some zv) (hzs : zv.cells.size = i.size) (hpos : 0 < i.size) (hone : 1 ≤ i.bytes)
    {ty : TypeId} {v : Value} {n : Nat} {xs : List Value} (hown : w.ownsRow 0 e i.size v n xs) {src : Value} {m : Nat} {news : List Value} (hsrc : SrcOf w i.size src m news) (hbytes : (n + m) * i.bytes ≤ 140737488355328) :
    ∃ v' w', (Builtin.append_ #[t, t] ty #[v, src]).run P w = .ok v' w' ∧ w'.ownsRow 0 e i.size v' (n + m) (xs ++ news) ∧ Kpt w w' (fun b => v.ownBlock = some b ∧ v'.ownBlock = some b) ∧ (v'.ownBlock = v.ownBlock ∨ v'.ownBlock = some w.heap.size) := by
  have h63 : n + m ≤ maxLen := by
    have := Nat.le_trans (Nat.le_mul_of_pos_right (n + m) hone) hbytes
    unfold maxLen; omega
  rcases hsrc with ⟨rfl, rfl, rfl⟩ | ⟨ad, c, rfl, hl, hnews, h1⟩
  · exact ⟨v, w, run_append_owned_none (P := P) w 0 t ty e i i.size ht hi v n xs hown, by simpa using hown, Kpt.refl _ _, .inl rfl⟩
  · obtain ⟨v', w', h2, h3, h4, _, h5⟩ := run_append_own_at (P := P) (w := w) 0 t ty e i zv i.size i.bytes ht hi hz rfl rfl hzs hpos v n xs hown ad m c news hl hnews h1 h63 hbytes (Nat.zero_le _)
    refine ⟨v', w', h2, h3, ?_, h5⟩
    rcases hown.2 with ⟨rfl, rfl⟩ | ⟨g, cap, cur, rfl, hbg, hg, hnc, hcm, hcs, htake⟩
    · exact ⟨h4.os, h4.tape, h4.output, h4.size, fun k hk _ => h4.block k hk (by simp [Value.ownBlock])⟩
    · by_cases hroom : n + m ≤ cap
      · have hfit : n * i.size + news.length ≤ cur.size := by rw [hl, hcs, ← Nat.add_mul]; exact Nat.mul_le_mul_right _ hroom
        have hr := run_append_room (P := P) w t ty e i ht hi g n cap cur hg ad m c news hl hnews h1 hroom hfit
        have he := hr.symm.trans h2
        injection he with e1 e2
        subst e1
        exact ⟨h4.os, h4.tape, h4.output, h4.size, fun k hk hs => h4.block k hk fun e => hs ⟨e.symm, e.symm⟩⟩
      · have holds : ∀ j u, xs[j]? = some u → w.cell? ((⟨g, 0, none⟩ : Addr).add j) = some u := hown.cells (g := g) rfl
        have hsmall : n + m ≤ 9223372036854775807 := by simp only [maxLen] at h63; omega
        have hr := run_append_grow (P := P) w t ty e i zv ht hi hz ⟨g, 0, none⟩ n cap xs hown.1 holds ad m c news hl hnews (by omega) (by omega) (growslice_fits (by omega) hbytes)
        have he := hr.symm.trans h2
        injection he with e1 e2
        subst e2
        exact ⟨h4.os, h4.tape, h4.output, h4.size, fun k hk _ => alloc_old _ (by simpa using hk)⟩

/-- an element that lies elsewhere now -/
theorem el_move {Z Z' : Nat → Nat → Option Value} (hZ : ∀ b j v, Z b j = some v → Z' b j = some v) : ∀ {es : List Sh} {b o b' o' : Nat} {d : D} {j : Nat}, EL Z es b o d j → (∀ i v, i < es.length → Z b (o + i) = some v → Z' b' (o' + i) = some v) → EL Z' es b' o' d j
  | [], _, _, _, _, _, _, _, _ => trivial
  | s :: es, b, o, b', o', d, j, ⟨⟨v, h1, h2⟩, h3⟩, hm => ⟨⟨v, hm 0 v (by simp) h1, LF.mono hZ _ _ _ h2⟩, el_move hZ h3 fun i u hi hu => by
      have := hm (i + 1) u (by simpa using hi) (by rwa [show o + (i + 1) = o + 1 + i by omega])
      rwa [show o' + 1 + i = o' + (i + 1) by omega]⟩
/-- the cells of a slice that is read -/
theorem slice_cells (I : Inv P w0 G E h w) {es : List Sh} {v : Value} {d : D} (hl : LF E.Z (.sl es) v d) : ∃ news : List Value, SrcOf w es.length v d.len news ∧ news.length = d.len * es.length ∧ (∀ u ∈ news, u.oneCell' = true) ∧
    (d.len ≠ 0 → ∃ b o, (∃ n c, v = .slice (some ⟨b, o, none⟩) n c) ∧ (∀ i, i < d.len → EL E.Z es b (o + i * es.length) (d.get i) 0) ∧ ∀ j u, news[j]? = some u → E.Z b (o + j) = some u) := by
  obtain ⟨_, ad, cap, rfl, h1, h2, h3, h4⟩ := hl
  by_cases h0 : d.len = 0
  · refine ⟨[], ?_, by simp [h0], by simp, fun h => absurd h0 h⟩
    cases ad with
    | none => have := h3 rfl; exact .inl ⟨by rw [h0, this], h0, rfl⟩
    | some ad => exact .inr ⟨ad, cap, rfl, by simp [h0], by simp, by simp⟩
  · obtain ⟨b, o, rfl, h5⟩ := h4 h0
    have hc : ∀ j, j < d.len * es.length → ∃ u, E.Z b (o + j) = some u ∧ u.oneCell' = true := fun j hj => by
      have hp : 0 < es.length := by
        rcases Nat.eq_zero_or_pos es.length with h | h
        · rw [h] at hj; omega
        · exact h
      have hq : j / es.length < d.len := by rw [Nat.div_lt_iff_lt_mul hp]; exact hj
      obtain ⟨vs, g1, g2, _, g4⟩ := el_leaves (kn := false) (E := E) (h5 _ hq)
      have hr : j % es.length < vs.length := by rw [g1]; exact Nat.mod_lt _ hp
      refine ⟨vs[j % es.length], ?_, g4 _ (List.getElem_mem hr)⟩
      have := g2 (j % es.length) _ (List.getElem?_eq_getElem hr)
      rw [show o + j = o + j / es.length * es.length + j % es.length by have := Nat.div_add_mod' j es.length; omega]
      exact this
    refine ⟨(List.range (d.len * es.length)).map fun j => (E.Z b (o + j)).getD undef, ?_, by simp, ?_, fun _ => ⟨b, o, ⟨_, _, rfl⟩, h5, fun j u hu => ?_⟩⟩
    · refine .inr ⟨⟨b, o, none⟩, cap, rfl, by simp, fun j u hu => ?_, fun u hu => ?_⟩
      · rw [List.getElem?_map] at hu
        have hj : j < d.len * es.length := by
          rcases Nat.lt_or_ge j (d.len * es.length) with h | h
          · exact h
          · rw [List.getElem?_eq_none (by simpa using h)] at hu; cases hu
        rw [List.getElem?_range hj] at hu
        obtain ⟨x, hx, _⟩ := hc j hj
        simp only [Option.map_some, hx, Option.getD_some, Option.some.injEq] at hu
        subst hu
        rw [addr_add']
        exact I.z _ _ _ hx
      · obtain ⟨j, hj, rfl⟩ := List.mem_map.1 hu
        obtain ⟨x, hx, h6⟩ := hc j (List.mem_range.1 hj)
        simp only [hx, Option.getD_some]; exact h6
    · intro u hu
      obtain ⟨j, hj, rfl⟩ := List.mem_map.1 hu
      obtain ⟨x, hx, h6⟩ := hc j (List.mem_range.1 hj)
      simp only [hx, Option.getD_some]; exact h6
    · rw [List.getElem?_map] at hu
      have hj : j < d.len * es.length := by
        rcases Nat.lt_or_ge j (d.len * es.length) with h | h
        · exact h
        · rw [List.getElem?_eq_none (by simpa using h)] at hu; cases hu
      rw [List.getElem?_range hj] at hu
      obtain ⟨x, hx, _⟩ := hc j hj
      simp only [Option.map_some, hx, Option.getD_some, Option.some.injEq] at hu
      subst hu; exact hx
theorem app_len {d d' : D} (hle : d.len + d'.len ≤ maxLen) : (d.app d').len = d.len + d'.len := by
  unfold D.len D.app at *
  rw [toL_l (by simpa using hle)]; simp
theorem app_get {d d' : D} (hle : d.len + d'.len ≤ maxLen) (i : Nat) : (d.app d').get i = if i < d.len then d.get i else d'.get (i - d.len) := by
  unfold D.get D.app D.len at *
  rw [toL_l (by simpa using hle)]
  split
  · rename_i h; rw [List.getD_eq_getElem?_getD, List.getD_eq_getElem?_getD, List.getElem?_append_left h]
  · rename_i h; rw [List.getD_eq_getElem?_getD, List.getD_eq_getElem?_getD, List.getElem?_append_right (by omega)]

/-- what an append leaves -/
theorem append_core (I : Inv P w0 G E h w) {t e : TypeId} {i : TypeInfo} {zv : Value} (ht : P.underlying t = some (.slice e)) (hi : P.info? e = some i) (hz : i.zero = some zv) (hzs : zv.cells.size = i.size) (hpos : 0 < i.size) (hone : 1 ≤ i.bytes)
    {ty : TypeId} {v : Value} {es : List Sh} {d d' : D} (hes : es.length = i.size) {k m : Nat} (hk : k < h.nv ∧ m = h.nv ∧ E.vc k = v ∨ k = h.nv ∧ m = h.nv + 1 ∧ v.ownBlock = none)
    {n : Nat} {xs : List Value} (hown : w.ownsRow 0 e i.size v n xs) (hx1 : ∀ u ∈ xs, u.oneCell' = true)
    (hold : ∀ b, v.ownBlock = some b → (w0.heap.size ≤ b ∨ G b) ∧ (∀ o, E.live o → E.β o ≠ b) ∧ ∀ j, E.Z b j = xs[j]?) (hv : LF E.Z (.sl es) v d)
    {src : Value} (hs : LF E.Z (.sl es) src d') (hbz : (d.len + d'.len) * szB es ≤ room) (hbb : i.bytes ≤ szB es) :
    ∃ v' w' E', (Builtin.append_ #[t, t] ty #[v, src]).run P w = .ok v' w' ∧ Stepd P w0 G E h w E' { h with gn := (k, h.ng, e) :: h.gn, nv := m, ng := h.ng + 1 } w' ∧
      LF E'.Z (.sl es) v' (d.app d') ∧ k < E'.m ∧ h.ng < E'.ng ∧ E'.gn k = h.ng ∧ v' = E'.vc k := by
  have hb : (d.len + d'.len) * i.bytes ≤ room := Nat.le_trans (Nat.mul_le_mul_left _ hbb) hbz
  obtain ⟨news, hsrc, hnl, hn1, hnz⟩ := slice_cells I hs
  rw [hes] at hsrc hnl
  have hvn : n = d.len := by
    obtain ⟨_, ad, cap, rfl, _⟩ := hv
    rcases hown.2 with ⟨h0, h1⟩ | ⟨g, cap', cur, h0, _⟩
    · injection h0 with _ h2 _; omega
    · injection h0 with _ h2 _; exact h2.symm
  subst hvn
  have hle : d.len + d'.len ≤ maxLen := by
    have := Nat.le_trans (Nat.le_mul_of_pos_right (d.len + d'.len) hone) hb
    unfold room at this; unfold maxLen; omega
  obtain ⟨v', w', e1, e2, e3, e4⟩ := run_append_own2 (ty := ty) ht hi hz hzs hpos hone hown hsrc hb
  have hst := I.vec_set hk hold (sz := i.size) (by unfold sizeT; rw [hi]; rfl) e2 (by
    intro u hu
    rcases List.mem_append.1 hu with h | h
    · exact hx1 u h
    · exact hn1 u h) e3 e4
  refine ⟨v', w', _, e1, hst, ?_, ?_, by simp [Env.grow], by simp [Env.grow], by simp [Env.grow]⟩
  · have hv' : ∃ ad cap, v' = .slice ad (d.len + d'.len) cap ∧ d.len + d'.len ≤ cap ∧ cap ≤ maxLen ∧ (ad = none → cap = 0) ∧ ∀ b, v'.ownBlock = some b → ad = some ⟨b, 0, none⟩ := by
      rcases e2.2 with ⟨rfl, h0⟩ | ⟨g, cap, cur, rfl, _, _, h1, h2, _⟩
      · exact ⟨none, 0, by rw [h0], by omega, Nat.zero_le _, fun _ => rfl, fun b hb => by cases hb⟩
      · exact ⟨some ⟨g, 0, none⟩, cap, rfl, h1, h2, (fun h => by cases h), (fun b hb => by cases hb; rfl)⟩
    obtain ⟨ad, cap, f1, f2, f3, f4, f5⟩ := hv'
    refine ⟨by rw [app_len hle]; exact hbz, ad, cap, by rw [app_len hle]; exact f1, by rw [app_len hle]; exact f2, f3, f4, fun hne => ?_⟩
    rw [app_len hle] at hne
    obtain ⟨b, hbo⟩ : ∃ b, v'.ownBlock = some b := by
      rcases e2.2 with ⟨rfl, h0⟩ | ⟨g, _, _, rfl, _⟩
      · omega
      · exact ⟨g, rfl⟩
    refine ⟨b, 0, f5 b hbo, fun q hq => ?_⟩
    rw [app_len hle] at hq
    rw [app_get hle]
    have hxl : xs.length = d.len * i.size := hown.1
    have hZb : ∀ j, (E.grow k v' h.ng e m (xs ++ news)).Z b j = (xs ++ news)[j]? := fun j => by simp only [Env.grow, if_pos hbo]
    by_cases hqd : q < d.len
    · rw [if_pos hqd]
      obtain ⟨_, ad0, cap0, rfl, g1, g2, g3, g4⟩ := hv
      obtain ⟨b0, o0, rfl, g5⟩ := g4 (by omega)
      have ho0 : o0 = 0 := by
        rcases hown.2 with ⟨h0, _⟩ | ⟨g, _, _, h0, _⟩
        · cases h0
        · injection h0 with h0 _ _; injection h0 with h0; injection h0
      subst ho0
      refine el_move hst.ext.Z (g5 q hqd) fun t u ht hu => ?_
      rw [hZb]
      rw [(hold b0 rfl).2.2] at hu
      rw [List.getElem?_append_left (List.getElem?_eq_some_iff.1 hu).1]
      exact hu
    · rw [if_neg hqd]
      obtain ⟨bs, os, _, g5, g6⟩ := hnz (by omega)
      refine el_move hst.ext.Z (g5 (q - d.len) (by omega)) fun t u ht hu => ?_
      rw [hZb]
      have hidx : 0 + q * es.length + t = xs.length + ((q - d.len) * es.length + t) := by
        rw [hxl, hes]
        have : q * i.size = d.len * i.size + (q - d.len) * i.size := by rw [← Nat.add_mul]; congr 1; omega
        omega
      rw [hidx, List.getElem?_append_right (by omega), Nat.add_sub_cancel_left]
      have hlt : (q - d.len) * es.length + t < news.length := by
        rw [hnl, ← hes]
        have : (q - d.len) * es.length + es.length ≤ d'.len * es.length := by rw [← Nat.succ_mul]; exact Nat.mul_le_mul_right _ (by omega)
        omega
      have := g6 _ _ (List.getElem?_eq_getElem hlt)
      rw [← Nat.add_assoc, hu] at this
      rw [List.getElem?_eq_getElem hlt]
      exact this.symm
  · rcases hk with ⟨h1, rfl, _⟩ | ⟨rfl, rfl, _⟩
    · exact h1
    · exact Nat.lt_succ_self _
theorem ble_lt {n : Nat} (h : Nat.ble 1 n = true) : 0 < n := Nat.le_of_ble_eq_true h
theorem appendA_ok {K : AV × Hp → Prop} {t ty : TypeId} {s x : AV} {vs vx : Value} (H : (appendA P t s x h).holds K) (I : Inv P w0 G E h w) (hs : Rel E s vs) (hx : Rel E x vx) :
    ∃ av h' u w' E', K (av, h') ∧ (Builtin.append_ #[t, t] ty #[vs, vx]).run P w = .ok u w' ∧ Stepd P w0 G E h w E' h' w' ∧ Rel E' av u := by
  unfold appendA at H
  split at H
  · exact H.elim
  rename_i e he
  have hu := elemA_ok he
  split at H
  · exact H.elim
  rename_i i hi
  split at H
  · exact H.elim
  rename_i z hz
  cases hb : Nat.beq z.cells.size i.size && Nat.ble 1 i.size && Nat.ble 1 i.bytes && Nat.beq (shE P e).length i.size && Nat.ble i.bytes (szB (shE P e))
  · rw [hb] at H; exact H.elim
  rw [hb] at H
  simp only [Bool.and_eq_true, cond_true] at hb H
  obtain ⟨⟨⟨⟨b1, b2⟩, b3⟩, b4⟩, b5⟩ := hb
  have hbb := Nat.le_of_ble_eq_true b5
  have hzs := Nat.eq_of_beq_eq_true b1
  have hes := Nat.eq_of_beq_eq_true b4
  split at H
  · exact H.elim
  rename_i k2 es' d' hasl
  have hsrc := asSl_ok hasl hx
  split at H
  · rename_i k1 es d k g
    obtain ⟨hv, hkm, hgn, hcur⟩ := hs
    have hknv : k < h.nv := by rw [← I.m]; exact hkm
    split at H
    · rename_i g' e' hlg
      cases hc : Nat.beq g g' && Nat.beq e e' && Sh.eqsL es es' && Sh.eqsL es (shE P e)
      · rw [hc] at H; exact H.elim
      rw [hc] at H
      simp only [Bool.and_eq_true, cond_true] at hc H
      obtain ⟨⟨⟨c1, c2⟩, c3⟩, c4⟩ := hc
      obtain rfl := Nat.eq_of_beq_eq_true c1
      obtain rfl := Nat.eq_of_beq_eq_true c2
      obtain rfl := Sh.eqsL_eq _ _ c3
      have hes' := Sh.eqsL_eq _ _ c4
      have hH : (d.len + d'.len) * szB es ≤ room ∧ K (.sl (k1 && k2) es (d.app d') (some (k, h.ng)), { h with gn := (k, h.ng, e) :: h.gn, ng := h.ng + 1 }) := by
        cases h0 : k1 && Nat.beq d.len 0
        · rw [h0] at H
          obtain ⟨hroom, H⟩ := need_holds H
          exact ⟨of_decide_eq_true hroom, H⟩
        · rw [h0] at H
          simp only [Bool.and_eq_true] at h0
          have h00 := Nat.eq_of_beq_eq_true h0.2
          exact ⟨by rw [h00, Nat.zero_add]; exact hsrc.1, H⟩
      obtain ⟨hroom', H⟩ := hH
      have hgn2 := (I.gn k hknv).symm.trans hlg
      injection hgn2 with hgn2
      have hg1 : E.gn k = g := congrArg Prod.fst hgn2
      have hg2 : E.ve k = e := congrArg Prod.snd hgn2
      obtain ⟨sz, n, xs, f1, f2, f3, f4⟩ := I.vec k hknv
      have hsz : sz = i.size := by rw [hg2] at f1; unfold sizeT at f1; rw [hi] at f1; exact (Option.some.inj f1).symm
      subst hsz
      rw [hg2, ← hcur hg1] at f2
      rw [← hcur hg1] at f4
      obtain ⟨v', w', E', e1, e2, e3, e4, e5, e6, e7⟩ := append_core (ty := ty) I hu hi hz hzs (ble_lt b2) (ble_lt b3) (es := es) (by rw [hes']; exact hes) (k := k) (m := h.nv) (.inl ⟨hknv, rfl, (hcur hg1).symm⟩) f2 f3 f4 hv hsrc hroom' (by rw [hes']; exact hbb)
      exact ⟨_, _, v', w', E', H, e1, e2, e3, e4, e5, fun _ => e7⟩
    · exact H.elim
  · obtain ⟨rfl, _⟩ := hs
    cases hc : Sh.eqsL (shE P e) es'
    · rw [hc] at H; exact H.elim
    rw [hc] at H
    obtain rfl := Sh.eqsL_eq _ _ hc
    have hroom' := hsrc.1
    have h0 : (D.l []).len = 0 := by simp [D.len, D.toL, D.raw]
    obtain ⟨v', w', E', e1, e2, e3, e4, e5, e6, e7⟩ := append_core (ty := ty) (v := .slice none 0 0) (d := .l []) I hu hi hz hzs (ble_lt b2) (ble_lt b3) hes (k := h.nv) (m := h.nv + 1) (.inr ⟨rfl, rfl, rfl⟩) (n := 0) (xs := []) ⟨by simp, .inl ⟨rfl, rfl⟩⟩ (by simp) (fun b hb => by cases hb)
      ⟨by rw [h0, Nat.zero_mul]; exact Nat.zero_le _, none, 0, by rw [h0], by rw [h0]; exact Nat.le_refl _, Nat.zero_le _, fun _ => rfl, fun hn => absurd h0 hn⟩ hsrc (by rw [h0, Nat.zero_add]; exact hroom') hbb
    exact ⟨_, _, v', w', E', H, e1, e2, e3, e4, e5, fun _ => e7⟩
  · exact H.elim

/-! Conversions. -/
theorem foldl_push_int : ∀ (l : List Int) (s : ByteArray), l.foldl (fun r n => r.push (UInt8.ofNat n.toNat)) s = ⟨s.data ++ (l.map fun n => UInt8.ofNat n.toNat).toArray⟩
  | [], s => by simp
  | b :: l, s => by
    rw [List.foldl_cons, foldl_push_int l]
    simp [ByteArray.push]
theorem convA_ok {K : AV → Prop} {src dst : TypeId} {x : AV} {v : Value} (H : (convA P src dst x h).holds K) (I : Inv P w0 G E h w) (hx : Rel E x v) :
    ∃ av u, K av ∧ (∀ W, Sees E x w W → (convert src dst v).run P W = .ok u W) ∧ Rel E av u := by
  unfold convA at H
  split at H
  · rename_i k hs hd
    obtain ⟨rfl, _⟩ := hx
    exact ⟨_, _, H, fun W hW => by simp [convert, run_underlying hs, run_underlying hd, Conv.intToInt], rfl, rfl⟩
  · rename_i e kn es d tip hs hd
    obtain ⟨hl, _⟩ := hx
    split at H
    · rename_i he
      obtain ⟨_, ad, cap, rfl, g1, g2, g3, g4⟩ := hl
      by_cases h0 : d.len = 0
      · have hstr : d.str = .empty := by
          have : d.toL = [] := List.eq_nil_of_length_eq_zero h0
          unfold D.str; rw [this]; rfl
        refine ⟨_, .string .empty, H, fun W hW => ?_, by rw [hstr], rfl⟩
        cases ad with
        | none => rw [h0]; exact run_convert_bytes_nil W src e hs he 0 cap dst hd
        | some x =>
          have hl : (loadCells x d.len).run P W = .ok (([] : List Int).map (Value.int .u8)).toArray W := by rw [h0]; rfl
          rw [run_convert_bytes_string W src dst e _ _ cap hs he hd, run_bytesToString W _ _ cap _ hl]
          rfl
      · obtain ⟨b, o, rfl, g5⟩ := g4 h0
        have hl : ∀ W, Sees E (.sl kn [.int .u8] d tip) w W → (loadCells ⟨b, o, none⟩ d.len).run P W = .ok ((d.toL.map fun e => (e.cell 0).toI).map (Value.int .u8)).toArray W := fun W hW => by
          have := run_loadCells_list (P := P) W ⟨b, o, none⟩ ((d.toL.map fun e => (e.cell 0).toI).map (Value.int .u8)) (fun j u hu => by
            rw [addr_add']
            have hj : j < d.len := by
              rcases Nat.lt_or_ge j d.len with h | h
              · exact h
              · rw [List.getElem?_eq_none (by simpa [D.len] using h)] at hu; cases hu
            obtain ⟨⟨c, hc, hlf⟩, _⟩ := g5 j hj
            simp only [List.length_cons, List.length_nil, Nat.zero_add, Nat.mul_one] at hc
            rw [hW.1 _ _ _ hc, ← hu]
            have hlf' : c = .int .u8 ((d.get j).cell 0).toI := hlf
            rw [hlf']
            unfold D.get
            have hj' : j < d.toL.length := hj
            rw [List.getElem?_map, List.getElem?_map, List.getElem?_eq_getElem hj', List.getD_eq_getElem?_getD, List.getElem?_eq_getElem hj']
            rfl)
          simpa [D.len] using this
        refine ⟨_, .string d.str, H, fun W hW => ?_, rfl, rfl⟩
        rw [run_convert_bytes_string W src dst e _ _ cap hs he hd, run_bytesToString W _ _ cap _ (hl W hW), foldl_push_int]
        simp [ByteArray.empty, ByteArray.emptyWithCapacity, D.str, Function.comp_def]
        rfl
    · exact H.elim
  · rename_i e kn hs hd
    obtain ⟨rfl, _⟩ := hx
    split at H
    · rename_i he
      exact ⟨_, _, H, fun W _ => run_convert_bytes_nil W src e hs he 0 0 dst hd, rfl, rfl⟩
    · exact H.elim
  · exact H.elim
end
end
end Go.Proofs.YtcambhbmobepjaaGreat

namespace Go.Proofs.YtcambhbmobepjaaGreat
set_option linter.unusedSimpArgs false
set_option linter.unusedVariables false
open Go.RowKit
set_option maxRecDepth 10000
noncomputable section

/-- what calls answer is right -/
def CallOk (P : Program) (call : FuncId → Spec) : Prop := ∀ g args h K, (call g args h).holds K → ((plainF P g).isSome = true ∧ noGor P = true) ∧ ∀ w0 G E w vals, Inv P w0 G E h w → RelL E args vals →
  Calls P g vals.toArray w fun e w' => ∃ r h' v E', K (r, h') ∧ e = .returned v ∧ Stepd P w0 G E h w E' h' w' ∧ Rel E' r v
theorem callFunc_plain {P : Program} {g : FuncId} {vals : Array Value} {w : World} (hh : (plainF P g).isSome = true ∧ noGor P = true) : (callFunc g vals).run P w = .ok (.enter g vals) w := by
  obtain ⟨h, hng⟩ := hh
  unfold plainF at h
  split at h
  · rename_i fn hf
    split at h
    · rename_i c hc
      have hmem : fn ∈ P.funcs.toList := by
        obtain ⟨hlt, he⟩ := Array.getElem?_eq_some_iff.1 hf
        exact he ▸ Array.getElem_mem_toList hlt
      have hn := List.all_eq_true.1 hng fn hmem
      have hn' : ¬ fn.name = "runtime.NumGoroutine" := by simpa using hn
      simp [callFunc, hf, hn', hc]
    · cases h
  · cases h

section
variable {P : Program} {E : Env} {F : Tm} {h : Hp} {w w0 : World} {G : Nat → Prop} {a : Act} {Q : Exit → Act → World → Prop}

theorem v_holds {r : RT AV} {K : AV × Hp → Prop} (H : (r.bind fun a => .ok (a, h)).holds K) : r.holds fun a => K (a, h) := by rw [RT.holds_bind] at H; exact H
/-- a world in which an operation reads what it reads in w -/
def SeesO (E : Env) (F : Tm) (o : Oper) (w W : World) : Prop := (∀ b j v, E.Z b j = some v → W.cell? ⟨b, j, none⟩ = some v) ∧ ∀ t x b, o.op = .load t x → tgt (opnd F x) = some b → W.heap[E.β b]? = w.heap[E.β b]?
set_option maxHeartbeats 1000000 in
theorem evEarly_ok {call : FuncId → Spec} {o : Oper} {K : AV × Hp → Prop} (he : earlyA o = true) (H : (evOp P call o F h).holds K) (I : Inv P w0 G E h w) (hT : RelT E F a) :
    ∃ av v, K (av, h) ∧ Rel E av v ∧ ∀ W, SeesO E F o w W → (execOp a.eval o).run P W = .ok (.value v) W := by
  have val : ∀ {s : Sem Value}, execOp a.eval o = (do pure (.value (← s))) → (∃ av u, K (av, h) ∧ (∀ W, s.run P W = .ok u W) ∧ Rel E av u) → ∃ av v, K (av, h) ∧ Rel E av v ∧ ∀ W, SeesO E F o w W → (execOp a.eval o).run P W = .ok (.value v) W := by
    rintro s hs ⟨av, u, h1, h2, h3⟩
    refine ⟨av, u, h1, h3, fun W _ => ?_⟩
    rw [hs]
    simp only [Sem.run_bind, h2, Result.andThen_ok, Sem.run_pure]
  have pur : ∀ {av : AV} {v : Value}, execOp a.eval o = pure (.value v) → K (av, h) → Rel E av v → ∃ av v, K (av, h) ∧ Rel E av v ∧ ∀ W, SeesO E F o w W → (execOp a.eval o).run P W = .ok (.value v) W := by
    intro av v hs h1 h2
    refine ⟨av, v, h1, h2, fun W _ => ?_⟩
    rw [hs]
    rfl
  obtain ⟨dst, op, type, pos, after, guard⟩ := o
  cases op <;> simp only [evOp] at H <;> first | (exact H.elim) | skip
  case alloc e => cases he
  case box e x => cases he
  case makeMap t r => cases he
  case lookup t m k two => cases he
  case mapUpdate t m k x => cases he
  case buildSlice t n ps => cases he
  case store t x y => cases he
  case move x => exact pur rfl H (rel_opnd hT x)
  case assign x => exact pur rfl H (rel_opnd hT x)
  case pick c x y =>
    have hc := rel_opnd hT c
    split at H
    · rename_i kn b hcb
      rw [hcb] at hc
      have hcv : a.eval c = .bool b := hc.1
      rcases brk_holds H with ⟨rfl, H2⟩ | ⟨rfl, H2⟩
      · exact pur (v := a.eval x) (by simp only [execOp, hcv]; rfl) H2 (rel_opnd hT x)
      · exact pur (v := a.eval y) (by simp only [execOp, hcv]; rfl) H2 (rel_opnd hT y)
    · exact H.elim
  case build t ps => exact val (s := Instr.build t _) rfl (buildA_ok (by simp) hT (v_holds H))
  case load t x =>
    obtain ⟨av, u, h1, h2, h3⟩ := loadA_ok (v_holds H) I (rel_opnd hT x)
    refine ⟨av, u, h1, h3, fun W hW => ?_⟩
    have := h2 W ⟨hW.1, fun o hx => hW.2 t x o rfl hx⟩
    simp only [execOp, Sem.run_bind, this, Result.andThen_ok, Sem.run_pure]
  case nilCheck x =>
    have hx := rel_opnd hT x
    split at H
    · rename_i o off hxo
      rw [hxo] at hx
      obtain ⟨hl, hv⟩ := hx
      exact pur (v := a.eval x) (by simp only [execOp, hv]) H ⟨hl, hv⟩
    · rename_i kn es d j hxo
      rw [hxo] at hx
      obtain ⟨b, o, hv, he⟩ := hx
      exact pur (v := a.eval x) (by simp only [execOp, hv]) H ⟨b, o, hv, he⟩
    · rename_i kn o n i j hxo
      rw [hxo] at hx
      obtain ⟨hl, hv⟩ := hx
      exact pur (v := a.eval x) (by simp only [execOp, hv]) H ⟨hl, hv⟩
    · rename_i f c d hxo
      rw [hxo] at hx
      obtain ⟨a', c', hv, g1, g2⟩ := hx
      exact pur (v := a.eval x) (by simp only [execOp, hv]) H ⟨a', c', hv, g1, g2⟩
    · exact H.elim
  case binOp op t x y yt => exact val (s := do eqGuard op t x y (a.eval x) (a.eval y); Go.binOp op t (a.eval x) (a.eval y)) rfl (binA_ok (v_holds H) (rel_opnd hT x) (rel_opnd hT y))
  case unOp op t x => exact val (s := Op.unary op (a.eval x)) rfl (unA_ok (v_holds H) (rel_opnd hT x))
  case convert s d x =>
    obtain ⟨av, u, h1, h2, h3⟩ := convA_ok (v_holds H) I (rel_opnd hT x)
    refine ⟨av, u, h1, h3, fun W hW => ?_⟩
    have hp : ∀ o, tgt (opnd F x) ≠ some o := fun o hx => by
      have H' := v_holds H
      revert hx H'
      generalize opnd F x = X
      intro hx H'
      unfold convA at H'
      split at H' <;> first | exact H'.elim | (simp only [tgt] at hx; cases hx)
    have := h2 W ⟨hW.1, fun o hx => absurd hx (hp o)⟩
    simp only [execOp, Sem.run_bind, this, Result.andThen_ok, Sem.run_pure]
  case makeFunc f x c =>
    refine val (s := Instr.makeFunc f (x.map a.eval) (c.map a.eval)) rfl ⟨_, _, H, fun W => rfl, _, _, rfl, ?_, ?_⟩
    · simpa using rel_map hT x.toList
    · simpa using rel_map hT c.toList
  case slice t x lo hi mx => exact val (s := Instr.sliceAt t (a.eval x) (lo.map a.eval) (hi.map a.eval) (mx.map a.eval)) rfl (sliceA_ok hT (v_holds H) (rel_opnd hT x))
  case fieldAddr s x f => exact val (s := Instr.fieldAt s (a.eval x) f) rfl (fieldAddrA_ok (v_holds H) (rel_opnd hT x))
  case indexAddr t x i => exact val (s := Instr.indexAt t (a.eval x) (a.eval i)) rfl (indexAddrA_ok (v_holds H) (rel_opnd hT x) (rel_opnd hT i))
  case index t x i => exact val (s := Instr.index t (a.eval x) (a.eval i)) rfl (indexA_ok (v_holds H) (rel_opnd hT x) (rel_opnd hT i))
  case field t x f => exact val (s := Instr.field t (a.eval x) f) rfl (fieldA_ok (v_holds H) (rel_opnd hT x))
  case extract t i =>
    have ht := rel_opnd hT t
    split at H
    · rename_i vs hvs
      rw [hvs] at ht
      obtain ⟨vs', hv, hr⟩ := ht
      split at H
      · rename_i av hi
        obtain ⟨u, hu, hru⟩ := RelL.get hr hi
        have hu' : vs'[i]? = some u := by simpa using hu
        refine val (s := Instr.extract (a.eval t) i) rfl ⟨av, u, H, fun W => ?_, hru⟩
        simp [Instr.extract, hv, hu']
      · exact H.elim
    · exact H.elim
  case call c =>
    obtain ⟨callee, args, ts⟩ := c
    cases callee with
    | invoke r m => exact H.elim
    | value f => cases he
    | builtin b =>
      simp only at H
      have hexec : ∀ s : Sem Value, Go.builtin b ts type (args.map fun | .const _ => true | _ => false) (args.map a.eval) = (do pure (.value (← s))) → execOp a.eval { dst := dst, op := .call ⟨.builtin b, args, ts⟩, type := type, pos := pos, after := after, guard := guard } = (do pure (.value (← s))) := fun s hs => by
        simp only [execOp, resolve]
        exact hs
      unfold builtinA at H
      split at H
      · rename_i x hx
        split at H
        · rename_i t ht
          have H := v_holds H
          obtain ⟨y, hy⟩ : ∃ y, args.toList = [y] := by
            cases hl : args.toList with
            | nil => rw [hl] at hx; cases hx
            | cons y l => cases l with
              | nil => exact ⟨y, rfl⟩
              | cons _ _ => rw [hl] at hx; simp at hx
          rw [hy] at hx
          simp only [List.map_cons, List.map_nil, List.cons.injEq, and_true] at hx
          have hargs : args.map a.eval = #[a.eval y] := by apply Array.ext'; simp [hy]
          have hts : ts = #[t] := by apply Array.ext'; simpa using ht
          have hxr := rel_opnd hT y
          rw [hx] at hxr
          refine val (hexec (Builtin.len_ ts type (args.map a.eval)) rfl) ?_
          rw [hargs, hts]
          exact lenA_ok H hxr
        · exact H.elim
      · cases he
      · have H := v_holds H
        refine val (hexec (Builtin.min_ ts type (args.map a.eval)) rfl) ?_
        have := minA_ok (P := P) (ts := ts) (ty := type) hT H
        rwa [show ((args.toList.map a.eval).toArray) = args.map a.eval by apply Array.ext'; simp] at this
      · have H := v_holds H
        refine val (hexec (Builtin.max_ ts type (args.map a.eval)) rfl) ?_
        have := maxA_ok (P := P) (ts := ts) (ty := type) hT H
        rwa [show ((args.toList.map a.eval).toArray) = args.map a.eval by apply Array.ext'; simp] at this
      · exact H.elim
theorem seesO_self (I : Inv P w0 G E h w) (o : Oper) : SeesO E F o w w := ⟨I.z, fun _ _ _ _ _ => rfl⟩
set_option maxHeartbeats 1000000 in
theorem evOp_ok {call : FuncId → Spec} (hcall : CallOk P call) {o : Oper} {K : AV × Hp → Prop} {next : Act → World → Prop} (H : (evOp P call o F h).holds K) (I : Inv P w0 G E h w) (hT : RelT E F a)
    (hn : ∀ av h' v w' E', K (av, h') → Stepd P w0 G E h w E' h' w' → Rel E' av v → next (a.put o.dst v) w') : o.wp P a w next Q := by
  cases he : earlyA o
  case true =>
    obtain ⟨av, v, h1, h2, h3⟩ := evEarly_ok he H I hT
    unfold Oper.wp
    rw [h3 w (seesO_self I o), Oper.upon_value]
    exact hn _ _ _ _ _ h1 (Stepd.refl I) h2
  have chg : ∀ {s : Sem Value}, execOp a.eval o = (do pure (.value (← s))) → (∃ av h' u w' E', K (av, h') ∧ s.run P w = .ok u w' ∧ Stepd P w0 G E h w E' h' w' ∧ Rel E' av u) → o.wp P a w next Q := by
    rintro s hs ⟨av, h', u, w', E', h1, h2, h3, h4⟩
    unfold Oper.wp
    rw [hs]
    simp only [Sem.run_bind, h2, Result.andThen_ok, Sem.run_pure, Oper.upon_value]
    exact hn _ _ _ _ _ h1 h3 h4
  obtain ⟨dst, op, type, pos, after, guard⟩ := o
  cases op <;> simp only [evOp] at H <;> first | (exact H.elim) | (cases he; done) | skip
  case alloc e =>
    split at H
    · rename_i cs hz
      obtain ⟨z, hzr, _, g1, g2⟩ := zeroA_ok (E := E) hz
      obtain ⟨E', h1, h2⟩ := newA_ok (h := h) e I g1 g2
      refine chg (s := Instr.alloc e true (.tuple #[])) rfl ⟨_, _, _, _, E', H, ?_, h1, h2⟩
      simp [Instr.alloc, hzr, newVar, newRow, newObj]
      rfl
    · exact H.elim
  case box e x =>
    split at H
    · rename_i cs hc
      obtain ⟨g1, g2⟩ := rel_cells (rel_opnd hT x) hc
      obtain ⟨E', h1, h2⟩ := newA_ok (h := h) e I g1 g2
      refine chg (s := Instr.box e (a.eval x)) rfl ⟨_, _, _, _, E', H, ?_, h1, h2⟩
      simp [Instr.box, newVar, newRow, newObj]
      rfl
    · exact H.elim
  case buildSlice t n ps => exact chg (s := Instr.buildSlice t n _) rfl (buildSliceA_ok (by simp) hT I H)
  case makeMap t r =>
    cases r with
    | none =>
      obtain ⟨E', h1, h2⟩ := newM_ok I
      refine chg (s := Instr.makeMap t none) rfl ⟨_, _, _, _, E', H, ?_, h1, h2⟩
      simp [Instr.makeMap, newObj]
      rfl
    | some r => exact H.elim
  case lookup t m k two =>
    obtain ⟨av, u, h1, h2, h3⟩ := lookupA_ok (v_holds H) I (rel_opnd hT m) (rel_opnd hT k)
    exact chg (s := Instr.lookup t (a.eval m) (a.eval k) two) rfl ⟨_, _, _, _, E, h1, h2, Stepd.refl I, h3⟩
  case mapUpdate t m k x =>
    rw [RT.holds_bind] at H
    obtain ⟨h', w', h1, h2, h3⟩ := updateA_ok H I (rel_opnd hT m) (rel_opnd hT k) (rel_opnd hT x)
    unfold Oper.wp
    have : (execOp a.eval { dst := dst, op := .mapUpdate t m k x, type := type, pos := pos, after := after, guard := guard }).run P w = .ok .skip w' := by
      simp only [execOp, Sem.run_bind, h2, Result.andThen_ok, Sem.run_pure]
    rw [this, Oper.upon_skip]
    exact hn _ _ _ _ _ h1 h3 trivial
  case store t x y =>
    rw [RT.holds_bind] at H
    obtain ⟨h', w', h1, h2, h3⟩ := storeA_ok H I (rel_opnd hT x) (rel_opnd hT y)
    unfold Oper.wp
    have : (execOp a.eval { dst := dst, op := .store t x y, type := type, pos := pos, after := after, guard := guard }).run P w = .ok .skip w' := by
      simp only [execOp, Sem.run_bind, h2, Result.andThen_ok, Sem.run_pure]
    rw [this, Oper.upon_skip]
    exact hn _ _ _ _ _ h1 h3 trivial
  case call c =>
    obtain ⟨callee, args, ts⟩ := c
    cases callee with
    | invoke r m => exact H.elim
    | value f =>
      have hf := rel_opnd hT f
      simp only at H
      split at H
      · rename_i g x cap hfo
        rw [hfo] at hf
        obtain ⟨x', cap', hv, g1, g2⟩ := hf
        obtain ⟨hpl, hc⟩ := hcall _ _ _ _ H
        have hrel := (g1.append (rel_map hT args.toList)).append g2
        have hC := hc w0 G E w _ I hrel
        unfold Oper.wp
        have hrun : (execOp a.eval { dst := dst, op := .call ⟨.value f, args, ts⟩, type := type, pos := pos, after := after, guard := guard }).run P w = .ok (.enter g (x'.toList ++ args.toList.map a.eval ++ cap'.toList).toArray) w := by
          have harr : (x' ++ args.map a.eval) ++ cap' = (x'.toList ++ args.toList.map a.eval ++ cap'.toList).toArray := by
            apply Array.ext'; simp
          simp only [execOp, resolve, hv, Deferred.ofValue, Sem.run_bind, Sem.run_pure, Result.andThen_ok, invoke]
          rw [callFunc_plain hpl, harr]
        rw [hrun, Oper.upon_enter]
        refine hC.mono ?_
        rintro e w' ⟨r, h', v, E', k1, rfl, k2, k3⟩
        exact hn _ _ _ _ _ k1 k2 k3
      · exact H.elim
    | builtin b =>
      simp only at H
      have hexec : ∀ s : Sem Value, Go.builtin b ts type (args.map fun | .const _ => true | _ => false) (args.map a.eval) = (do pure (.value (← s))) → execOp a.eval { dst := dst, op := .call ⟨.builtin b, args, ts⟩, type := type, pos := pos, after := after, guard := guard } = (do pure (.value (← s))) := fun s hs => by
        simp only [execOp, resolve]
        exact hs
      unfold builtinA at H
      split at H
      · cases he
      · rename_i s x hx
        split at H
        · rename_i t t' ht
          cases hb : Nat.beq t t'
          · rw [hb] at H; exact H.elim
          rw [hb] at H
          simp only [cond_true] at H
          obtain rfl := Nat.eq_of_beq_eq_true hb
          obtain ⟨y, z, hy⟩ : ∃ y z, args.toList = [y, z] := by
            cases hl : args.toList with
            | nil => rw [hl] at hx; cases hx
            | cons y l => cases l with
              | nil => rw [hl] at hx; simp at hx
              | cons z l => cases l with
                | nil => exact ⟨y, z, rfl⟩
                | cons _ _ => rw [hl] at hx; simp at hx
          rw [hy] at hx
          simp only [List.map_cons, List.map_nil, List.cons.injEq, and_true] at hx
          have hargs : args.map a.eval = #[a.eval y, a.eval z] := by apply Array.ext'; simp [hy]
          have hts : ts = #[t, t] := by apply Array.ext'; simpa using ht
          have h1 := rel_opnd hT y
          have h2 := rel_opnd hT z
          rw [hx.1] at h1
          rw [hx.2] at h2
          refine chg (hexec (Builtin.append_ ts type (args.map a.eval)) rfl) ?_
          rw [hargs, hts]
          exact appendA_ok H I h1 h2
        · exact H.elim
      · cases he
      · cases he
      · exact H.elim

theorem setA_ok (hT : RelT E F a) {d : Nat} {kn b : Bool} (hl : look d F.tm = .sc kn (.bool b)) : RelT E (setA F d b) a := by
  refine ⟨hT.sz, fun i => ?_, hT.df⟩
  have h0 := hT.tm d
  rw [hl] at h0
  simp only [setA, look_cons]
  cases hb : Nat.beq d i
  · exact hT.tm i
  · obtain rfl := Nat.eq_of_beq_eq_true hb
    exact ⟨h0.1, rfl⟩
theorem putA_ok {K : Tm → Prop} {dst : Option Tmp} {v : AV} {u : Value} (H : (putA F dst v).holds K) (hT : RelT E F a) (hr : Rel E v u) : ∃ F', K F' ∧ RelT E F' (a.put dst u) := by
  unfold putA at H
  split at H
  · exact ⟨F, H, hT⟩
  · rename_i d
    cases hb : Nat.blt d F.nt
    · rw [hb] at H; exact H.elim
    · rw [hb] at H
      refine ⟨_, H, by simp only [Act.put, Array.size_setIfInBounds]; exact hT.sz, fun i => ?_, hT.df⟩
      have hd : d < a.tmps.size := by rw [hT.sz]; exact Nat.lt_of_lt_of_le (Nat.lt_succ_self d) (Nat.le_of_ble_eq_true hb)
      simp only [look_cons, Act.put]
      cases hi : Nat.beq d i
      · have : d ≠ i := fun e => by rw [e] at hi; simp at hi
        have h2 := hT.tm i
        rw [Array.getD_eq_getD_getElem?] at h2 ⊢
        rw [Array.getElem?_setIfInBounds_ne this]
        exact h2
      · obtain rfl := Nat.eq_of_beq_eq_true hi
        rw [Array.getD_eq_getD_getElem?, Array.getElem?_setIfInBounds_self_of_lt hd]
        exact hr
theorem put_defers {dst : Option Tmp} {u : Value} : (a.put dst u).defers = a.defers := by unfold Act.put; split <;> rfl
theorem deferA_ok {K : Tm → Prop} {o : Oper} {r : RT Tm} (hr : deferA o F = some r) (H : r.holds K) (hT : RelT E F a) : ∃ F' d, K F' ∧ RelT E F' ({ a with defers := d :: a.defers }.put o.dst undef) ∧ (execOp a.eval o).run P w = .ok (.defer d) w := by
  unfold deferA at hr
  split at hr
  · rename_i c hc
    cases hr
    obtain ⟨callee, args, ts⟩ := c
    cases callee with
    | invoke _ _ => exact H.elim
    | builtin _ => exact H.elim
    | value f =>
      simp only at H
      have hf := rel_opnd hT f
      split at H
      · rename_i g x cap hfo
        rw [hfo] at hf
        obtain ⟨x', cap', hv, g1, g2⟩ := hf
        have hT' : RelT E { F with df := (g, x ++ args.toList.map (opnd F) ++ cap) :: F.df } { a with defers := ⟨.fn (.func g) cap', x' ++ args.map a.eval⟩ :: a.defers } :=
          ⟨hT.sz, hT.tm, _, _, _, rfl, by simpa using (g1.append (rel_map hT args.toList)).append g2, hT.df⟩
        obtain ⟨F', k1, k2⟩ := putA_ok (u := undef) H hT' trivial
        refine ⟨F', _, k1, k2, ?_⟩
        simp only [execOp, hc, resolve, hv, Deferred.ofValue, Sem.run_bind, Sem.run_pure, Result.andThen_ok]
      · exact H.elim
  · cases hr
/-- what follows a step -/
def Cont (P : Program) (w0 : World) (G : Nat → Prop) (E : Env) (h : Hp) (w : World) (K : Tm × Hp → Prop) (next : Act → World → Prop) : Prop :=
  ∀ F' h' E' a' w', K (F', h') → Stepd P w0 G E h w E' h' w' → RelT E' F' a' → next a' w'
theorem evStep_ok {call : FuncId → Spec} (hcall : CallOk P call) {ops : Array Oper} {o : Oper} {K : Tm × Hp → Prop} {next : Act → World → Prop} (H : (evStep P call ops o F h).holds K) (I : Inv P w0 G E h w) (hT : RelT E F a)
    (hn : Cont P w0 G E h w K next) : if Region.wanted o (yielded ops a.tmps) = true then o.wp P a w next Q ∨ (o.asks P a w ∧ LetsOut Q) else next (a.put o.dst undef) w := by
  have go : ∀ F, RelT E F a → (match deferA o F with
      | some r => r.bind fun F => .ok (F, h)
      | none => (evOp P call o F h).bind fun r => (putA F o.dst r.1).bind fun F => .ok (F, r.2) : RT (Tm × Hp)).holds K → o.wp P a w next Q := fun F hT H => by
    split at H
    · rename_i r hr
      rw [RT.holds_bind] at H
      obtain ⟨F', a', h1, h2, h3⟩ := deferA_ok hr H hT
      unfold Oper.wp
      rw [h3, Oper.upon_defer]
      exact hn _ _ _ _ _ h1 (Stepd.refl I) h2
    rw [RT.holds_bind] at H
    refine evOp_ok hcall H I hT fun av h' v w' E' hk hs hr => ?_
    rw [RT.holds_bind] at hk
    obtain ⟨F', k1, k2⟩ := putA_ok hk (hT.mono hs.ext) hr
    exact hn _ _ _ _ _ k1 hs k2
  have skip : ∀ F, RelT E F a → ((putA F o.dst (.tup [])).bind fun F => .ok (F, h)).holds K → next (a.put o.dst undef) w := fun F hT H => by
    rw [RT.holds_bind] at H
    obtain ⟨F', k1, k2⟩ := putA_ok (u := undef) H hT ⟨#[], rfl, rfl⟩
    exact hn _ _ _ _ _ k1 (Stepd.refl I) k2
  unfold evStep guardA at H
  split at H
  · rename_i hg
    have hw : Region.wanted o (yielded ops a.tmps) = true := by simp [Region.wanted, hg]
    rw [if_pos hw]
    exact .inl (go F hT H)
  · rename_i j want hg
    split at H
    · exact H.elim
    · rename_i d hd
      split at H
      · rename_i kn b hl
        have hv := hT.tm d
        rw [hl] at hv
        have hy : yielded ops a.tmps j = some b := by
          unfold yielded
          rw [hd]
          have hv1 := hv.1
          rw [Array.getD_eq_getD_getElem?] at hv1
          cases ht : a.tmps[d]? with
          | none => rw [ht] at hv1; cases hv1
          | some x => rw [ht] at hv1; simp only [Option.getD_some] at hv1; simp [ht, hv1]
        have hwant : Region.wanted o (yielded ops a.tmps) = (b == want) := by
          simp only [Region.wanted, hg, hy]
          cases b <;> cases want <;> rfl
        have hset := setA_ok hT hl
        rcases brk_holds H with ⟨rfl, H2⟩ | ⟨rfl, H2⟩
        · cases want
          · rw [if_neg (by rw [hwant]; decide)]; exact skip _ hset H2
          · rw [if_pos (by rw [hwant]; decide)]; exact .inl (go _ hset H2)
        · cases want
          · rw [if_pos (by rw [hwant]; decide)]; exact .inl (go _ hset H2)
          · rw [if_neg (by rw [hwant]; decide)]; exact skip _ hset H2
      · rename_i hl
        have hv := hT.tm d
        rw [hl] at hv
        obtain ⟨us, hv1, hus⟩ := hv
        have hus : us = #[] := by cases us with | mk l => have : l = [] := hus; subst this; rfl
        subst hus
        have hy : yielded ops a.tmps j = none := by
          unfold yielded
          rw [hd]
          rw [Array.getD_eq_getD_getElem?] at hv1
          cases ht : a.tmps[d]? with
          | none => simp [ht]
          | some x => rw [ht] at hv1; simp only [Option.getD_some] at hv1; simp [ht, hv1]
        have hwant : Region.wanted o (yielded ops a.tmps) = false := by simp [Region.wanted, hg, hy]
        rw [if_neg (by rw [hwant]; decide)]; exact skip _ hT H
      · exact H.elim
theorem Cont.step {K : Tm × Hp → Prop} {next : Act → World → Prop} (hn : Cont P w0 G E h w K next) {E1 : Env} {h1 : Hp} {w1 : World} (hs : Stepd P w0 G E h w E1 h1 w1) : Cont P w0 G E1 h1 w1 K next :=
  fun F' h' E' a' w' hk hs' hT => hn F' h' E' a' w' hk (hs.trans hs') hT
theorem evList_ok {call : FuncId → Spec} (hcall : CallOk P call) {ops : Array Oper} {K : Tm × Hp → Prop} : ∀ (l : List Oper) {F : Tm} {h : Hp} {E : Env} {w : World} {a : Act}, (evList P call ops l F h).holds K → Inv P w0 G E h w → RelT E F a →
    Cont P w0 G E h w K (Q .normal) → wpList P ops Q l a w
  | [], F, h, E, w, a, H, I, hT, hn => hn _ _ _ _ _ H (Stepd.refl I) hT
  | o :: l, F, h, E, w, a, H, I, hT, hn => by
    rw [evList_cons] at H
    rw [RT.holds_bind] at H
    have := evStep_ok (Q := Q) (next := wpList P ops Q l) hcall H I hT (fun F' h' E' a' w' hk hs hT' => evList_ok hcall l hk hs.inv hT' (hn.step hs))
    unfold wpList
    split
    · rename_i hw; rw [if_pos hw] at this; exact this
    · rename_i hw; rw [if_neg hw] at this; exact this
end
end
end Go.Proofs.YtcambhbmobepjaaGreat

namespace Go.Proofs.YtcambhbmobepjaaGreat
set_option linter.unusedSimpArgs false
set_option linter.unusedVariables false
open Go.RowKit
set_option maxRecDepth 10000
noncomputable section
section
variable {P : Program} {ops : Array Oper} {Q : Exit → Act → World → Prop}

def depends (ops : Array Oper) (i j : Nat) : Bool := match ops[j]? with | some o => waits i o | none => false
/-- a promise: operation i reads the same as long as this holds -/
abbrev SPrm := List (Nat × (World → Prop))
def kept (ops : Array Oper) (j : Nat) (pr : SPrm) : SPrm := pr.filter fun p => !depends ops p.1 j
def wpL (P : Program) (ops : Array Oper) (Q : Exit → Act → World → Prop) : Nat → Array Bool → SPrm → Act → World → Prop
  | 0, listed, _, a, w => Region.ready .any ops listed = [] ∧ Q .normal a w
  | n + 1, listed, pr, a, w => (Region.ready .any ops listed = [] → Q .normal a w) ∧
    ∀ j ∈ Region.ready .any ops listed, wpOp P ops Q j (fun a' w' => (∀ p ∈ kept ops j pr, p.2 w') ∧ wpL P ops Q n (listed.setIfInBounds j true) (kept ops j pr) a' w') a w
theorem wpL_any : ∀ (n : Nat) (listed : Array Bool) (pr : SPrm) (a : Act) (w : World), wpL P ops Q n listed pr a w → wpAny P .any ops Q n listed a w
  | 0, _, _, _, _, h => h
  | n + 1, _, _, _, _, h => ⟨h.1, fun i hi => wpOp_mono (fun a' w' h' => wpL_any n _ _ a' w' h'.2) (h.2 i hi)⟩
theorem kept_sub {j : Nat} {pr pr' : SPrm} (h : ∀ p ∈ pr', p ∈ pr) : ∀ p ∈ kept ops j pr', p ∈ kept ops j pr := fun p hp => by
  unfold kept at *
  rw [List.mem_filter] at *
  exact ⟨h p hp.1, hp.2⟩
theorem wpL_weaken : ∀ (n : Nat) (listed : Array Bool) (pr pr' : SPrm) (a : Act) (w : World), (∀ p ∈ pr', p ∈ pr) → wpL P ops Q n listed pr a w → wpL P ops Q n listed pr' a w
  | 0, _, _, _, _, _, _, h => h
  | n + 1, _, _, _, _, _, hs, h => ⟨h.1, fun i hi => wpOp_mono (fun a' w' h' => ⟨fun p hp => h'.1 p (kept_sub hs p hp), wpL_weaken n _ _ _ a' w' (kept_sub hs) h'.2⟩) (h.2 i hi)⟩
theorem waits_ready {i j : Nat} {listed : Array Bool} (hj : j ∈ Region.ready .any ops listed) (hi : listed.getD i true = false) : depends ops i j = false := by
  obtain ⟨_, oj, hoj, hall⟩ := mem_ready.1 hj
  unfold depends
  rw [hoj]
  simp only [waits]
  cases hw : (oj.after.any fun e => Region.binds .any e && e.on == i)
  · rfl
  · obtain ⟨e, he, h2⟩ := Array.any_eq_true'.1 hw
    simp only [Bool.and_eq_true, beq_iff_eq] at h2
    have h1 := hall e he h2.1
    rw [h2.2] at h1
    rcases Nat.lt_or_ge i listed.size with h' | h'
    · simp [h'] at hi h1; rw [hi] at h1; cases h1
    · simp [Array.getElem?_eq_none h'] at h1
theorem wpL_first {i : Nat} {oi : Oper} {v : Value} {T : World → Prop} (hi : ops[i]? = some oi) (hsel : ∀ (j : Nat) (o : Oper) cs b, ops[j]? = some o → o.op ≠ .select cs b)
    (hQ : ∀ c a w, Q (.panic c) (a.put oi.dst v) w → Q (.panic c) a w) :
    ∀ (n : Nat) (listed : Array Bool) (pr : SPrm) (a : Act) (w : World),
      (∀ j oj, ops[j]? = some oj → j ≠ i → listed.getD j true = false → (∀ e ∈ oj.after, Region.binds .any e = true → e.on ≠ i) → oi.apart ops oj = true) →
      i ∈ Region.ready .any ops listed → YieldsIf P ops T oi v a → T w → (∀ p ∈ pr, p.2 w) →
      wpL P ops Q n (listed.setIfInBounds i true) ((i, T) :: pr) (a.put oi.dst v) w → wpL P ops Q (n + 1) listed pr a w := by
  intro n
  induction n with
  | zero =>
    intro listed pr a w _ hr hy hT hpr H
    refine ⟨fun h => (by rw [h] at hr; cases hr), fun j hj => ?_⟩
    by_cases hji : j = i
    · subst hji; exact hy.wpOp hi hT ⟨fun p hp => hpr p (List.mem_filter.1 hp).1, H⟩
    · have := ready_mono hj hji
      rw [H.1] at this
      cases this
  | succ n ih =>
    intro listed pr a w hfree hr hy hT hpr H
    refine ⟨fun h => (by rw [h] at hr; cases hr), fun j hj => ?_⟩
    by_cases hji : j = i
    · subst hji
      exact hy.wpOp hi hT ⟨fun p hp => hpr p (List.mem_filter.1 hp).1, wpL_weaken _ _ _ _ _ _ (fun p hp => List.mem_cons_of_mem _ (List.mem_filter.1 hp).1) H⟩
    · have h1 := H.2 j (ready_mono hj hji)
      obtain ⟨hjun, oj, hoj, hall⟩ := mem_ready.1 hj
      have hiun := (mem_ready.1 hr).1
      have hdep := waits_ready hj hiun
      have hnot : ∀ e ∈ oj.after, Region.binds .any e = true → e.on ≠ i := fun e he hb heq => by
        have h1 := hall e he hb
        rw [heq] at h1
        rcases Nat.lt_or_ge i listed.size with h' | h'
        · simp [h'] at hiun h1; rw [hiun] at h1; cases h1
        · simp [Array.getElem?_eq_none h'] at h1
      have hkept : kept ops j ((i, T) :: pr) = (i, T) :: kept ops j pr := by
        unfold kept
        rw [List.filter_cons]
        simp [hdep]
      rw [hkept] at h1
      have h2 := wpOp_putIf hoj (hfree j oj hoj hji hjun hnot) (fun cs b => hsel i oi cs b hi) (fun cs b => hsel j oj cs b hoj) hQ hy h1
      have hfree' : ∀ k ok, ops[k]? = some ok → k ≠ i → (listed.setIfInBounds j true).getD k true = false →
          (∀ e ∈ ok.after, Region.binds .any e = true → e.on ≠ i) → oi.apart ops ok = true := fun k ok hk hki hun hno => by
        refine hfree k ok hk hki ?_ hno
        by_cases hjk : j = k
        · subst hjk; exact hjun
        · rw [getD_set_ne true hjk] at hun; exact hun
      refine wpOp_mono (fun a' w' h3 => ?_) h2
      obtain ⟨h4, h5, h6⟩ := h3
      refine ⟨fun p hp => h5 p (List.mem_cons_of_mem _ hp), ih (listed.setIfInBounds j true) (kept ops j pr) a' w' hfree' (ready_mono hr (Ne.symm hji)) h4 (h5 (i, T) List.mem_cons_self) (fun p hp => h5 p (List.mem_cons_of_mem _ hp)) ?_⟩
      rw [Array.setIfInBounds_comm _ _ hji]
      exact h6

/-! The evaluator over such a region. -/
variable {E : Env} {F : Tm} {h : Hp} {w w0 : World} {G : Nat → Prop} {a : Act}
/-- promises that are met -/
inductive Met (E : Env) (h : Hp) (w : World) : Prm → SPrm → Prop
  | nil : Met E h w [] []
  | pure {pr : Prm} {spr : SPrm} (i : Nat) (T : World → Prop) (hz : ∀ W, (∀ b j v, E.Z b j = some v → W.cell? ⟨b, j, none⟩ = some v) → T W) : Met E h w pr spr → Met E h w pr ((i, T) :: spr)
  | load {pr : Prm} {spr : SPrm} (i b n : Nat) (T : World → Prop) (hl : E.live b) (hc : ver b h = n) (hz : ∀ W, (∀ b j v, E.Z b j = some v → W.cell? ⟨b, j, none⟩ = some v) → W.heap[E.β b]? = w.heap[E.β b]? → T W) :
      Met E h w pr spr → Met E h w ((i, b, n) :: pr) ((i, T) :: spr)
theorem Met.hold (I : Inv P w0 G E h w) {pr : Prm} {spr : SPrm} (H : Met E h w pr spr) : ∀ p ∈ spr, p.2 w := by
  induction H with
  | nil => simp
  | pure i T hz _ ih =>
    intro p hp
    rcases List.mem_cons.1 hp with rfl | hp
    · exact hz w I.z
    · exact ih p hp
  | load i b n T hl hc hz _ ih =>
    intro p hp
    rcases List.mem_cons.1 hp with rfl | hp
    · exact hz w I.z rfl
    · exact ih p hp
theorem Met.step {oj : Oper} {j : Nat} (hj : ops[j]? = some oj) {E' : Env} {h' : Hp} {w' : World} (hs : Stepd P w0 G E h w E' h' w') {pr : Prm} {spr : SPrm} (H : Met E h w pr spr) : keeps h' (keepP oj pr) = true → Met E' h' w' (keepP oj pr) (kept ops j spr) := by
  have hd : ∀ i, depends ops i j = waits i oj := fun i => by unfold depends; rw [hj]
  induction H with
  | nil => intro _; exact .nil
  | pure i T hz _ ih =>
    intro hk
    unfold kept
    rw [List.filter_cons]
    split
    · exact .pure i T (fun W hW => hz W fun b q v hv => hW b q v (hs.ext.Z b q v hv)) (ih hk)
    · exact ih hk
  | load i b n T hl hc hz _ ih =>
    intro hk
    simp only [keepP] at hk ⊢
    unfold kept
    rw [List.filter_cons, hd]
    cases hw : waits i oj
    · rw [hw] at hk
      simp only [cond_false, keeps, Bool.and_eq_true] at hk
      simp only [cond_false, Bool.not_false, if_true]
      have hc' := Nat.eq_of_beq_eq_true hk.1
      refine .load i b n T (hs.ext.live b hl) hc' (fun W hW hb => hz W (fun b q v hv => hW b q v (hs.ext.Z b q v hv)) ?_) (ih hk.2)
      rw [hs.ext.β b hl] at hb
      rw [hb]
      exact (hs.un b hl).2 (by rw [hc', hc])
    · rw [hw] at hk
      simp only [cond_true, Bool.not_true, Bool.false_eq_true, if_false]
      exact ih hk
theorem opnd_setA {d : Nat} {b : Bool} {x : Operand} {o : Nat} (hx : tgt (opnd (setA F d b) x) = some o) : tgt (opnd F x) = some o := by
  cases x with
  | tmp t =>
    simp only [opnd, setA, look_cons] at hx ⊢
    cases hb : Nat.beq d t
    · rw [hb] at hx; exact hx
    · rw [hb] at hx; cases hx
  | const v => exact hx
  | global g => exact hx
  | func f => exact hx
theorem seesO_setA {d : Nat} {b : Bool} {o : Oper} {W : World} (hW : SeesO E F o w W) : SeesO E (setA F d b) o w W := ⟨hW.1, fun t x p h1 h2 => hW.2 t x p h1 (opnd_setA h2)⟩
theorem evStepEarly_ok {call : FuncId → Spec} {o : Oper} {K : Tm × Hp → Prop} (he : earlyA o = true) (H : (evStep P call ops o F h).holds K) (I : Inv P w0 G E h w) (hT : RelT E F a) :
    ∃ F' v, K (F', h) ∧ RelT E F' (a.put o.dst v) ∧ YieldsIf P ops (SeesO E F o w) o v a := by
  have go : ∀ F1, RelT E F1 a → (∀ W, SeesO E F o w W → SeesO E F1 o w W) → Region.wanted o (yielded ops a.tmps) = true → (match deferA o F1 with
      | some r => r.bind fun F => .ok (F, h)
      | none => (evOp P call o F1 h).bind fun r => (putA F1 o.dst r.1).bind fun F => .ok (F, r.2) : RT (Tm × Hp)).holds K →
      ∃ F' v, K (F', h) ∧ RelT E F' (a.put o.dst v) ∧ YieldsIf P ops (SeesO E F o w) o v a := fun F1 hT1 hS hw H => by
    have hnd : deferA o F1 = none := by
      unfold deferA
      split
      · rename_i c hc; unfold earlyA at he; rw [hc] at he; cases he
      · rfl
    rw [hnd] at H
    simp only at H
    rw [RT.holds_bind] at H
    obtain ⟨av, v, h1, h2, h3⟩ := evEarly_ok he H I hT1
    rw [RT.holds_bind] at h1
    obtain ⟨F', k1, k2⟩ := putA_ok h1 hT1 h2
    exact ⟨F', v, k1, k2, .inl ⟨hw, fun W hW => h3 W (hS W hW)⟩⟩
  have skip : ∀ F1, RelT E F1 a → Region.wanted o (yielded ops a.tmps) = false → ((putA F1 o.dst (.tup [])).bind fun F => .ok (F, h)).holds K → ∃ F' v, K (F', h) ∧ RelT E F' (a.put o.dst v) ∧ YieldsIf P ops (SeesO E F o w) o v a := fun F1 hT1 hw H => by
    rw [RT.holds_bind] at H
    obtain ⟨F', k1, k2⟩ := putA_ok (u := undef) H hT1 ⟨#[], rfl, rfl⟩
    exact ⟨F', undef, k1, k2, .inr ⟨hw, rfl⟩⟩
  unfold evStep guardA at H
  split at H
  · rename_i hg
    have hw : Region.wanted o (yielded ops a.tmps) = true := by simp [Region.wanted, hg]
    exact go F hT (fun W h => h) hw H
  · rename_i j want hg
    split at H
    · exact H.elim
    · rename_i d hd
      split at H
      · rename_i kn b hl
        have hv := hT.tm d
        rw [hl] at hv
        have hy : yielded ops a.tmps j = some b := by
          unfold yielded
          rw [hd]
          have hv1 := hv.1
          rw [Array.getD_eq_getD_getElem?] at hv1
          cases ht : a.tmps[d]? with
          | none => rw [ht] at hv1; cases hv1
          | some x => rw [ht] at hv1; simp only [Option.getD_some] at hv1; simp [ht, hv1]
        have hwant : Region.wanted o (yielded ops a.tmps) = (b == want) := by
          simp only [Region.wanted, hg, hy]
          cases b <;> cases want <;> rfl
        have hset := setA_ok hT hl
        rcases brk_holds H with ⟨rfl, H2⟩ | ⟨rfl, H2⟩
        · cases want
          · exact skip _ hset (by rw [hwant]; decide) H2
          · exact go _ hset (fun W h => seesO_setA h) (by rw [hwant]; decide) H2
        · cases want
          · exact go _ hset (fun W h => seesO_setA h) (by rw [hwant]; decide) H2
          · exact skip _ hset (by rw [hwant]; decide) H2
      · rename_i hl
        have hv := hT.tm d
        rw [hl] at hv
        obtain ⟨us, hv1, hus⟩ := hv
        have hus : us = #[] := by cases us with | mk l => have : l = [] := hus; subst this; rfl
        subst hus
        have hy : yielded ops a.tmps j = none := by
          unfold yielded
          rw [hd]
          rw [Array.getD_eq_getD_getElem?] at hv1
          cases ht : a.tmps[d]? with
          | none => simp [ht]
          | some x => rw [ht] at hv1; simp only [Option.getD_some] at hv1; simp [ht, hv1]
        have hwant : Region.wanted o (yielded ops a.tmps) = false := by simp [Region.wanted, hg, hy]
        exact skip _ hT hwant H
      · exact H.elim
theorem met_promise {o : Oper} {i : Nat} {pr : Prm} {spr : SPrm} (hT : RelT E F a) (H : Met E h w pr spr) : Met E h w (promise i o F h ++ pr) ((i, SeesO E F o w) :: spr) := by
  have pure' : (∀ t x b, o.op = .load t x → tgt (opnd F x) ≠ some b) → Met E h w pr ((i, SeesO E F o w) :: spr) := fun hn => .pure i _ (fun W hW => ⟨hW, fun t x b h1 h2 => absurd h2 (hn t x b h1)⟩) H
  unfold promise
  split
  · rename_i t x hop
    split
    · rename_i b hx
      have hr := rel_opnd hT x
      have hlb : E.live b := by
        revert hx hr
        generalize opnd F x = X
        intro hx hr
        cases X <;> simp only [tgt] at hx <;> cases hx <;> exact hr.1
      refine .load i b _ _ hlb rfl (fun W hW hb => ⟨hW, fun t' x' b' h1 h2 => ?_⟩) H
      rw [hop] at h1
      injection h1 with _ h1
      subst h1
      rw [hx] at h2
      injection h2 with h2
      subst h2
      exact hb
    · rename_i hx
      refine pure' fun t' x' b h1 h2 => ?_
      rw [hop] at h1
      injection h1 with _ h1
      subst h1
      rw [hx] at h2; cases h2
  · rename_i hop
    exact pure' fun t x b h1 _ => hop t x h1
theorem earlyN_ok (o : Oper) (h : earlyN o = true) : earlyA o = true := by
  unfold earlyN at h
  split at h
  · cases h
  · exact h
theorem erOf_ok {Λ : FuncId → Nat → Option (Tm → Hp → RT (Ex × Tm × Hp))} {f id : Nat} (o : Oper) (h : erOf Λ f id o = true) : earlyA o = true := by
  unfold erOf at h
  cases hl : Λ f (2000 + id) with
  | none => rw [hl] at h; exact h
  | some x => rw [hl] at h; exact earlyN_ok o h
theorem evDrawn_ok {er : Oper → Bool} (her : ∀ o, er o = true → earlyA o = true) {call : FuncId → Spec} (hcall : CallOk P call) (hns : Region.noSelect ops = true) (hQ : ∀ d v c a w, Q (.panic c) (Act.put a d v) w → Q (.panic c) a w) {K : Tm × Hp → Prop} :
    ∀ (n : Nat) {listed : Array Bool} {pr : Prm} {spr : SPrm} {F : Tm} {h : Hp} {E : Env} {w : World} {a : Act}, (evDrawn P er call ops n listed pr F h).holds K → Inv P w0 G E h w → RelT E F a → Met E h w pr spr→
      Cont P w0 G E h w K (Q .normal) → wpL P ops Q n listed spr a w
  | 0, listed, pr, spr, F, h, E, w, a, H, I, hT, hM, hn => by
    unfold evDrawn at H
    split at H
    · rename_i hr
      exact ⟨hr, hn _ _ _ _ _ H (Stepd.refl I) hT⟩
    · exact H.elim
  | n + 1, listed, pr, spr, F, h, E, w, a, H, I, hT, hM, hn => by
    unfold evDrawn at H
    simp only at H
    split at H
    · rename_i i hfind
      split at H
      · rename_i o ho
        cases hf : Region.free .any ops listed i
        · rw [hf] at H; exact H.elim
        rw [hf] at H
        simp only [cond_true] at H
        have he : earlyA o = true := by
          have := List.find?_some hfind
          rw [ho] at this
          exact her o this
        have hir : i ∈ Region.ready .any ops listed := List.mem_of_find?_eq_some hfind
        rw [RT.holds_bind] at H
        obtain ⟨F', v, k1, k2, k3⟩ := evStepEarly_ok he H I hT
        have hM' := met_promise (i := i) (o := o) hT hM
        have hself : SeesO E F o w w := seesO_self I o
        exact wpL_first ho (Region.noSelect_spec hns) (hQ _ _) n listed spr a w (Region.free_spec ho hf) hir k3 hself (hM.hold I)
          (evDrawn_ok her hcall hns hQ n k1 I k2 hM' hn)
      · exact H.elim
    · rename_i hnone
      have one : ∀ i, (match ops[i]? with
          | some o => (evStep P call ops o F h).bind fun r => bif keeps r.2 (keepP o pr) then evDrawn P er call ops n (listed.setIfInBounds i true) (keepP o pr) r.1 r.2 else .bad 98
          | none => .bad 99 : RT (Tm × Hp)).holds K → wpOp P ops Q i (fun a' w' => (∀ p ∈ kept ops i spr, p.2 w') ∧ wpL P ops Q n (listed.setIfInBounds i true) (kept ops i spr) a' w') a w := fun i Hi => by
        split at Hi
        · rename_i o ho
          rw [RT.holds_bind] at Hi
          unfold wpOp
          rw [ho]
          refine evStep_ok hcall Hi I hT fun F' h' E' a' w' hk hs hT' => ?_
          cases hkp : keeps h' (keepP o pr)
          · rw [hkp] at hk; exact hk.elim
          · rw [hkp] at hk
            have hM' := hM.step ho hs hkp
            exact ⟨hM'.hold hs.inv, evDrawn_ok her hcall hns hQ n hk hs.inv hT' hM' (hn.step hs)⟩
        · exact Hi.elim
      split at H
      · rename_i hr
        exact ⟨fun _ => hn _ _ _ _ _ H (Stepd.refl I) hT, by rw [hr]; simp⟩
      · rename_i i hr
        refine ⟨(fun h0 => by rw [hr] at h0; cases h0), ?_⟩
        rw [hr]
        intro j hj
        obtain rfl : j = i := by simpa using hj
        exact one _ H
      · rename_i i j hr
        refine ⟨(fun h0 => by rw [hr] at h0; cases h0), ?_⟩
        rw [hr]
        intro q hq
        rcases (by simpa using hq : q = i ∨ q = j) with rfl | rfl
        · exact one _ H.1
        · exact one _ H.2
      · rename_i i j k hr
        refine ⟨(fun h0 => by rw [hr] at h0; cases h0), ?_⟩
        rw [hr]
        intro q hq
        rcases (by simpa using hq : q = i ∨ q = j ∨ q = k) with rfl | rfl | rfl
        · exact one _ H.1
        · exact one _ H.2.1
        · exact one _ H.2.2
      · exact H.elim
end
end
end Go.Proofs.YtcambhbmobepjaaGreat

namespace Go.Proofs.YtcambhbmobepjaaGreat
set_option linter.unusedSimpArgs false
set_option linter.unusedVariables false
open Go.RowKit
set_option maxRecDepth 10000
noncomputable section
section
variable {P : Program} {E : Env} {F : Tm} {h : Hp} {w w0 : World} {G : Nat → Prop} {a : Act} {Q : Exit → Act → World → Prop}

/-- a step of an operation that puts nothing off -/
theorem evStepQ_ok {call : FuncId → Spec} (hcall : CallOk P call) {ops : Array Oper} {o : Oper} (hdef : ∀ F : Tm, deferA o F = none) {K : Tm × Hp → Prop} {next : Act → World → Prop} (H : (evStep P call ops o F h).holds K) (I : Inv P w0 G E h w) (hT : RelT E F a)
    (hn : ∀ F' h' E' v w', K (F', h') → Stepd P w0 G E h w E' h' w' → RelT E' F' (a.put o.dst v) → next (a.put o.dst v) w') : if Region.wanted o (yielded ops a.tmps) = true then o.wp P a w next Q ∨ (o.asks P a w ∧ LetsOut Q) else next (a.put o.dst undef) w := by
  have go : ∀ F, RelT E F a → (match deferA o F with
      | some r => r.bind fun F => .ok (F, h)
      | none => (evOp P call o F h).bind fun r => (putA F o.dst r.1).bind fun F => .ok (F, r.2) : RT (Tm × Hp)).holds K → o.wp P a w next Q := fun F hT H => by
    rw [hdef F] at H
    simp only at H
    rw [RT.holds_bind] at H
    refine evOp_ok hcall H I hT fun av h' v w' E' hk hs hr => ?_
    rw [RT.holds_bind] at hk
    obtain ⟨F', k1, k2⟩ := putA_ok hk (hT.mono hs.ext) hr
    exact hn _ _ _ _ _ k1 hs k2
  have skip : ∀ F, RelT E F a → ((putA F o.dst (.tup [])).bind fun F => .ok (F, h)).holds K → next (a.put o.dst undef) w := fun F hT H => by
    rw [RT.holds_bind] at H
    obtain ⟨F', k1, k2⟩ := putA_ok (u := undef) H hT ⟨#[], rfl, rfl⟩
    exact hn _ _ _ _ _ k1 (Stepd.refl I) k2
  unfold evStep guardA at H
  split at H
  · rename_i hg
    have hw : Region.wanted o (yielded ops a.tmps) = true := by simp [Region.wanted, hg]
    rw [if_pos hw]
    exact .inl (go F hT H)
  · rename_i j want hg
    split at H
    · exact H.elim
    · rename_i d hd
      split at H
      · rename_i kn b hl
        have hv := hT.tm d
        rw [hl] at hv
        have hy : yielded ops a.tmps j = some b := by
          unfold yielded
          rw [hd]
          have hv1 := hv.1
          rw [Array.getD_eq_getD_getElem?] at hv1
          cases ht : a.tmps[d]? with
          | none => rw [ht] at hv1; cases hv1
          | some x => rw [ht] at hv1; simp only [Option.getD_some] at hv1; simp [ht, hv1]
        have hwant : Region.wanted o (yielded ops a.tmps) = (b == want) := by
          simp only [Region.wanted, hg, hy]
          cases b <;> cases want <;> rfl
        have hset := setA_ok hT hl
        rcases brk_holds H with ⟨rfl, H2⟩ | ⟨rfl, H2⟩
        · cases want
          · rw [if_neg (by rw [hwant]; decide)]; exact skip _ hset H2
          · rw [if_pos (by rw [hwant]; decide)]; exact .inl (go _ hset H2)
        · cases want
          · rw [if_pos (by rw [hwant]; decide)]; exact .inl (go _ hset H2)
          · rw [if_neg (by rw [hwant]; decide)]; exact skip _ hset H2
      · rename_i hl
        have hv := hT.tm d
        rw [hl] at hv
        obtain ⟨us, hv1, hus⟩ := hv
        have hus : us = #[] := by cases us with | mk l => have : l = [] := hus; subst this; rfl
        subst hus
        have hy : yielded ops a.tmps j = none := by
          unfold yielded
          rw [hd]
          rw [Array.getD_eq_getD_getElem?] at hv1
          cases ht : a.tmps[d]? with
          | none => simp [ht]
          | some x => rw [ht] at hv1; simp only [Option.getD_some] at hv1; simp [ht, hv1]
        have hwant : Region.wanted o (yielded ops a.tmps) = false := by simp [Region.wanted, hg, hy]
        rw [if_neg (by rw [hwant]; decide)]; exact skip _ hT H
      · exact H.elim

theorem look_only : ∀ (l : List Nat) (f : Nat → AV) (t : Nat), look t (l.map fun t => (t, f t)) = if t ∈ l then f t else .any
  | [], _, t => by simp [look_nil]
  | k :: l, f, t => by
    simp only [List.map_cons, look_cons, look_only l f t, List.mem_cons]
    cases hb : Nat.beq k t
    · have : ¬ t = k := fun e => by rw [e] at hb; simp at hb
      simp [this]
    · obtain rfl := Nat.eq_of_beq_eq_true hb
      simp

/-- what an owner may write -/
def Env.mine (E : Env) (b : Nat) : Prop := (∃ o, E.live o ∧ E.β o = b) ∨ ∃ k, k < E.m ∧ (E.vc k).ownBlock = some b
theorem Inv.top (I : Inv P w0 G E h w) : Inv P w E.mine E h w :=
  ⟨Kpt.refl _ _, I.m, I.ng, I.gn, I.gnlt, I.live, I.nx, I.ob, fun o ho => .inr (.inl ⟨o, ho, rfl⟩), I.inj, I.z, I.zob, fun k hk => by
    obtain ⟨sz, n, xs, g1, g2, g3, g4⟩ := I.vec k hk
    exact ⟨sz, n, xs, g1, g2, g3, fun b hb => ⟨.inr (.inr ⟨k, by rw [I.m]; exact hk, hb⟩), (g4 b hb).2⟩⟩, I.vinj⟩
theorem Inv.mine_own (I : Inv P w0 G E h w) {b : Nat} (hb : E.mine b) : w0.heap.size ≤ b ∨ G b := by
  rcases hb with ⟨o, ho, rfl⟩ | ⟨k, hk, hb⟩
  · exact I.own o ho
  · obtain ⟨_, _, _, _, _, _, g4⟩ := I.vec k (by rw [← I.m]; exact hk)
    exact (g4 b hb).1
/-- what a call under a smaller right does -/
theorem Stepd.under {E2 : Env} {h2 : Hp} {w2 : World} (I : Inv P w0 G E h w) (S : Stepd P w E.mine E h w E2 h2 w2) : Stepd P w0 G E h w E2 h2 w2 := by
  have own : ∀ b, w.heap.size ≤ b ∨ E.mine b → w0.heap.size ≤ b ∨ G b := fun b hb => by
    rcases hb with h | h
    · exact .inl (Nat.le_trans I.kpt.size h)
    · exact I.mine_own h
  refine ⟨S.ext, ⟨I.kpt.then S.inv.kpt fun b hb => I.mine_own hb, S.inv.m, S.inv.ng, S.inv.gn, S.inv.gnlt, S.inv.live, S.inv.nx, S.inv.ob, fun o ho => own _ (S.inv.own o ho), S.inv.inj, S.inv.z, S.inv.zob, fun k hk => ?_, S.inv.vinj⟩, S.un, fun b j v hz => ?_⟩
  · obtain ⟨sz, n, xs, g1, g2, g3, g4⟩ := S.inv.vec k hk
    exact ⟨sz, n, xs, g1, g2, g3, fun b hb => ⟨own b (g4 b hb).1, (g4 b hb).2⟩⟩
  · rcases S.zn b j v hz with h | h
    · exact .inl h
    · exact .inr (own b h)
/-- a new variable that the heap does not know yet -/
structure Held (w0 : World) (G : Nat → Prop) (E : Env) (w : World) (cs : List AV) (b : Nat) (v : Value) : Prop where
  ptr : v = .pointer (some ⟨b, 0, none⟩)
  ob : ∃ vs ob, w.heap[b]? = some ob ∧ RelL E cs vs ∧ ObOk ob vs
  own : w0.heap.size ≤ b ∨ G b
  nl : ∀ o, E.live o → E.β o ≠ b
  z : ∀ j, E.Z b j = none
  nv : ∀ k, k < E.m → (E.vc k).ownBlock ≠ some b
theorem Held.lt {cs : List AV} {b : Nat} {v : Value} (H : Held w0 G E w cs b v) : b < w.heap.size := by
  obtain ⟨_, _, h1, _⟩ := H.ob
  exact (Array.getElem?_eq_some_iff.1 h1).1
theorem Held.not_mine {cs : List AV} {b : Nat} {v : Value} (H : Held w0 G E w cs b v) : ¬ E.mine b := by
  rintro (⟨o, ho, e⟩ | ⟨k, hk, e⟩)
  · exact H.nl o ho e
  · exact H.nv k hk e
/-! What is new is forgotten. -/
theorem quiet_ver {h h' : Hp} (hq : quietH h h' = true) {o : Nat} (ho : o < h.nx) : ver o h' = ver o h := by
  unfold quietH at hq
  rw [Bool.and_eq_true] at hq
  exact Nat.eq_of_beq_eq_true (List.all_eq_true.1 hq.1 o (List.mem_range.2 ho))
theorem quiet_gn {h h' : Hp} (hq : quietH h h' = true) {k : Nat} (hk : k < h.nv) {p : Nat × TypeId} (hp : lookG k h.gn = some p) : lookG k h'.gn = some p := by
  unfold quietH at hq
  rw [Bool.and_eq_true] at hq
  have := List.all_eq_true.1 hq.2 k (List.mem_range.2 hk)
  obtain ⟨g, e⟩ := p
  rw [hp] at this
  split at this
  · rename_i g1 e1 g2 e2 h1 h2
    cases h1
    simp only [Bool.and_eq_true] at this
    rw [h2, Nat.eq_of_beq_eq_true this.1, Nat.eq_of_beq_eq_true this.2]
  · cases this
section
variable {E2 : Env} {h2 : Hp} {w2 : World}
theorem same_vec (I : Inv P w0 G E h w) (S : Stepd P w0 G E h w E2 h2 w2) (hq : quietH h h2 = true) {k : Nat} (hk : k < h.nv) : k < h2.nv ∧ E2.vc k = E.vc k ∧ E2.gn k = E.gn k ∧ E2.ve k = E.ve k := by
  have hk2 : k < h2.nv := by
    have := S.ext.m
    rw [I.m, S.inv.m] at this
    omega
  have hg := quiet_gn hq hk (I.gn k hk)
  have hg2 := S.inv.gn k hk2
  rw [hg] at hg2
  injection hg2 with hg2
  have e1 : E.gn k = E2.gn k := congrArg Prod.fst hg2
  have e2 : E.ve k = E2.ve k := congrArg Prod.snd hg2
  refine ⟨hk2, ?_, e1.symm, e2.symm⟩
  rcases S.ext.vc k (by rw [I.m]; exact hk) with ⟨a, _⟩ | b
  · exact a
  · rw [← e1, I.ng] at b
    have := I.gnlt k hk
    omega
theorem Inv.forget (I : Inv P w0 G E h w) (S : Stepd P w0 G E h w E2 h2 w2) (hq : quietH h h2 = true) : Stepd P w0 G E h w { E with Z := E2.Z } h w2 := by
  have hx : Ext E { E with Z := E2.Z } := ⟨fun _ h => h, fun _ _ => rfl, S.ext.Z, Nat.le_refl _, Nat.le_refl _, fun _ _ => .inl ⟨rfl, rfl⟩⟩
  have hblk : ∀ o, E.live o → w2.heap[E.β o]? = w.heap[E.β o]? := fun o ho => (S.un o ho).2 (quiet_ver hq (I.nx o ho))
  refine ⟨hx, ⟨S.inv.kpt, I.m, I.ng, I.gn, I.gnlt, I.live, I.nx, fun o cs hcs => ?_, I.own, I.inj, S.inv.z, fun o j ho => ?_, fun k hk => ?_, I.vinj⟩, fun o ho => ⟨Nat.le_refl _, fun _ => hblk o ho⟩, S.zn⟩
  · obtain ⟨vs, ob, g1, g2, g3⟩ := I.ob o cs hcs
    have ho : E.live o := (I.live o).2 (by rw [hcs]; rfl)
    exact ⟨vs, ob, (hblk o ho).trans g1, RelL.mono hx _ _ g2, g3⟩
  · have := S.inv.zob o j (S.ext.live o ho)
    rw [S.ext.β o ho] at this
    exact this
  · obtain ⟨hk2, e1, e2, e3⟩ := same_vec I S hq hk
    obtain ⟨sz, n, xs, g1, g2, g3, g4⟩ := S.inv.vec k hk2
    rw [e3] at g1 g2
    rw [e1] at g2 g4
    refine ⟨sz, n, xs, g1, g2, g3, fun b hb => ?_⟩
    obtain ⟨q1, q2, q3⟩ := g4 b hb
    exact ⟨q1, fun o ho => by have := q2 o (S.ext.live o ho); rwa [S.ext.β o ho] at this, q3⟩
mutual
theorem calm_rel (I : Inv P w0 G E h w) (S : Stepd P w0 G E h w E2 h2 w2) (hq : quietH h h2 = true) : ∀ (x : AV) (v : Value), Rel E2 x v → Rel { E with Z := E2.Z } (calm h x) v
  | .any, _, _ => trivial
  | .sc _ _, _, H => H
  | .ep _ _ _ _, _, H => H
  | .rw _ _, _, H => H
  | .ptr o off, v, ⟨_, hv⟩ => by
    simp only [calm]
    split
    · rename_i cs hcs
      have ho : E.live o := (I.live o).2 (by rw [hcs]; rfl)
      refine ⟨ho, ?_⟩
      rw [S.ext.β o ho] at hv
      exact hv
    · trivial
  | .mp o, v, ⟨_, hv⟩ => by
    simp only [calm]
    split
    · rename_i cs hcs
      have ho : E.live o := (I.live o).2 (by rw [hcs]; rfl)
      refine ⟨ho, ?_⟩
      rw [S.ext.β o ho] at hv
      exact hv
    · trivial
  | .rsl kn o n len, v, ⟨_, ad, cap, g1, g2, g3, g4, g5⟩ => by
    simp only [calm]
    split
    · rename_i cs hcs
      have ho : E.live o := (I.live o).2 (by rw [hcs]; rfl)
      refine ⟨ho, ad, cap, g1, g2, g3, g4, fun hn => ?_⟩
      have := g5 hn
      rw [S.ext.β o ho] at this
      exact this
    · trivial
  | .rp kn o n i j, v, ⟨_, hv⟩ => by
    simp only [calm]
    split
    · rename_i cs hcs
      have ho : E.live o := (I.live o).2 (by rw [hcs]; rfl)
      refine ⟨ho, ?_⟩
      rw [S.ext.β o ho] at hv
      exact hv
    · trivial
  | .sl kn es d none, v, H => H
  | .sl kn es d (some (k, g)), v, ⟨hl, h1, h2', h3⟩ => by
    simp only [calm]
    cases hb : Nat.blt k h.nv && Nat.blt g h.ng
    · exact ⟨hl, trivial⟩
    · simp only [Bool.and_eq_true] at hb
      have hk : k < h.nv := Nat.le_of_ble_eq_true hb.1
      have hg : g < h.ng := Nat.le_of_ble_eq_true hb.2
      obtain ⟨_, e1, e2, _⟩ := same_vec I S hq hk
      refine ⟨hl, by show k < E.m; rw [I.m]; exact hk, by show g < E.ng; rw [I.ng]; exact hg, fun he => ?_⟩
      have he' : E.gn k = g := he
      rw [e1] at h3
      exact h3 (e2.trans he')
  | .fn f a c, v, ⟨a', c', h1, h2, h3⟩ => ⟨a', c', h1, calm_relL I S hq a _ h2, calm_relL I S hq c _ h3⟩
  | .agg cs, v, ⟨cs', h1, h2, h3⟩ => ⟨cs', h1, calm_relL I S hq cs _ h2, h3⟩
  | .tup vs, v, ⟨vs', h1, h2⟩ => ⟨vs', h1, calm_relL I S hq vs _ h2⟩
theorem calm_relL (I : Inv P w0 G E h w) (S : Stepd P w0 G E h w E2 h2 w2) (hq : quietH h h2 = true) : ∀ (xs : List AV) (vs : List Value), RelL E2 xs vs → RelL { E with Z := E2.Z } (calmL h xs) vs
  | [], _, H => H
  | x :: xs, _, ⟨v, vs', h1, h2, h3⟩ => ⟨v, vs', h1, calm_rel I S hq x v h2, calm_relL I S hq xs vs' h3⟩
end
theorem Held.step (S : Stepd P w E.mine E h w E2 h2 w2) {cs : List AV} {b : Nat} {v : Value} (H : Held w0 G E w cs b v) : Held w0 G { E with Z := E2.Z } w2 cs b v := by
  have hlt := H.lt
  have hx : Ext E { E with Z := E2.Z } := ⟨fun _ h => h, fun _ _ => rfl, S.ext.Z, Nat.le_refl _, Nat.le_refl _, fun _ _ => .inl ⟨rfl, rfl⟩⟩
  refine ⟨H.ptr, ?_, H.own, H.nl, fun j => ?_, H.nv⟩
  · obtain ⟨vs, ob, g1, g2, g3⟩ := H.ob
    exact ⟨vs, ob, (S.inv.kpt.block b hlt H.not_mine).trans g1, RelL.mono hx _ _ g2, g3⟩
  · cases hz : E2.Z b j with
    | none => rfl
    | some u =>
      rcases S.zn b j u hz with h | h | h
      · rw [H.z j] at h; cases h
      · omega
      · exact absurd h H.not_mine
/-- a new variable, as it is made -/
theorem held_new (I : Inv P w0 G E h w) {cs : List AV} {v : Value} (S : Stepd P w E.mine E h w E2 (newA cs h).2 w2) (hq : quietH h (newA cs h).2 = true) (hv : Rel E2 (.ptr h.nx 0) v) :
    Held w0 G { E with Z := E2.Z } w2 (calmL h cs) (E2.β h.nx) v ∧ w.heap.size ≤ E2.β h.nx := by
  have hl : lookO h.nx (newA cs h).2.ob = some cs := by simp [newA, lookO_cons]
  have hlive : E2.live h.nx := (S.inv.live h.nx).2 (by rw [hl]; rfl)
  have hnl : ∀ o, E.live o → E.β o ≠ E2.β h.nx := fun o ho e => by
    rw [← S.ext.β o ho] at e
    have := S.inv.inj o h.nx (S.ext.live o ho) hlive e
    have := I.nx o ho
    omega
  have hnv : ∀ k, k < E.m → (E.vc k).ownBlock ≠ some (E2.β h.nx) := fun k hk e => by
    obtain ⟨hk2, e1, _, _⟩ := same_vec I (S.under I) hq (by rw [← I.m]; exact hk)
    obtain ⟨_, _, _, _, _, _, g4⟩ := S.inv.vec k hk2
    rw [← e1] at e
    exact (g4 _ e).2.1 h.nx hlive rfl
  have hsz : w.heap.size ≤ E2.β h.nx := by
    rcases S.inv.own h.nx hlive with h | ⟨o, ho, e⟩ | ⟨k, hk, e⟩
    · exact h
    · exact absurd e (hnl o ho)
    · exact absurd e (hnv k hk)
  obtain ⟨vs, ob, g1, g2, g3⟩ := S.inv.ob h.nx cs hl
  exact ⟨⟨hv.2, ⟨vs, ob, g1, calm_relL I (S.under I) hq _ _ g2, g3⟩, .inl (Nat.le_trans I.kpt.size hsz), hnl, fun j => S.inv.zob h.nx j hlive, hnv⟩, hsz⟩
/-- it is taken in -/
theorem Inv.adopt (I : Inv P w0 G E h w) {cs : List AV} {b : Nat} {v : Value} (H : Held w0 G E w cs b v) :
    ∃ E', Stepd P w0 G E h w E' (newA cs h).2 w ∧ Rel E' (newA cs h).1 v ∧ ∀ cs' b' v', b' ≠ b → Held w0 G E w cs' b' v' → Held w0 G E' w cs' b' v' := by
  have hnl : ¬ E.live h.nx := fun hl => by have := I.nx _ hl; omega
  have hext : Ext E { E with β := fun o => if o = h.nx then b else E.β o, live := fun o => E.live o ∨ o = h.nx } :=
    ⟨fun o ho => .inl ho, fun o ho => if_neg fun e : o = h.nx => hnl (e ▸ ho), fun _ _ _ hz => hz, Nat.le_refl _, Nat.le_refl _, fun _ _ => .inl ⟨rfl, rfl⟩⟩
  obtain ⟨vs, t, hblk, hr, h1⟩ := H.ob
  refine ⟨_, ⟨hext, ⟨I.kpt, I.m, I.ng, I.gn, I.gnlt, fun p => ?_, fun p hp => ?_, fun p cp hp => ?_, fun p hp => ?_, fun p q hp hq => ?_, I.z, fun p j hp => ?_, fun k hkn => ?_, I.vinj⟩, fun p hp => ?_, fun _ _ _ hz => .inl hz⟩, ⟨.inr rfl, by simp only [if_pos]; exact H.ptr⟩, fun cs' b' v' hne H' => ?_⟩
  · simp only [newA, lookO_cons]
    split
    · rename_i e; subst e; simp
    · rename_i e
      rw [← I.live p]
      exact ⟨fun hh => hh.resolve_right fun e' => e e'.symm, .inl⟩
  · rcases hp with hp | rfl
    · have := I.nx p hp; simp only [newA]; omega
    · simp only [newA]; omega
  · simp only [newA, lookO_cons] at hp
    split at hp
    · rename_i e; subst e; cases hp
      exact ⟨vs, t, by simp only [if_pos]; exact hblk, RelL.mono hext _ _ hr, h1⟩
    · rename_i e
      obtain ⟨us, t', g1, g2, g3⟩ := I.ob p cp hp
      refine ⟨us, t', ?_, RelL.mono hext _ _ g2, g3⟩
      simp only [if_neg (fun e' : p = h.nx => e (Eq.symm e'))]
      exact g1
  · rcases hp with hp | rfl
    · simp only [if_neg (fun e : p = h.nx => hnl (e ▸ hp))]; exact I.own p hp
    · simp only [if_pos]; exact H.own
  · intro e
    by_cases ep : p = h.nx <;> by_cases eq : q = h.nx
    · rw [ep, eq]
    · simp only [ep, eq, if_pos, if_neg, not_false_eq_true] at e
      exact absurd e.symm (H.nl q (hq.resolve_right eq))
    · simp only [ep, eq, if_pos, if_neg, not_false_eq_true] at e
      exact absurd e (H.nl p (hp.resolve_right ep))
    · simp only [if_neg ep, if_neg eq] at e
      exact I.inj p q (hp.resolve_right ep) (hq.resolve_right eq) e
  · by_cases ep : p = h.nx
    · simp only [if_pos ep]; exact H.z j
    · simp only [if_neg ep]; exact I.zob p j (hp.resolve_right ep)
  · obtain ⟨sz, n, xs, g1, g2, g3, g4⟩ := I.vec k hkn
    refine ⟨sz, n, xs, g1, g2, g3, fun b' hb' => ⟨(g4 b' hb').1, fun o ho => ?_, (g4 b' hb').2.2⟩⟩
    by_cases ep : o = h.nx
    · simp only [if_pos ep]
      intro e
      exact H.nv k (by rw [I.m]; exact hkn) (by rw [e]; exact hb')
    · simp only [if_neg ep]; exact (g4 b' hb').2.1 o (ho.resolve_right ep)
  · have : p ≠ h.nx := fun e => hnl (e ▸ hp)
    simp only [ver, newA, cnt_cons, if_neg (fun e : h.nx = p => this (Eq.symm e))]
    exact ⟨Nat.le_refl _, fun _ => by first | rfl | trivial⟩
  · refine ⟨H'.ptr, ?_, H'.own, fun o ho => ?_, H'.z, H'.nv⟩
    · obtain ⟨vs', ob', g1, g2, g3⟩ := H'.ob
      exact ⟨vs', ob', g1, RelL.mono hext _ _ g2, g3⟩
    · by_cases ep : o = h.nx
      · simp only [if_pos ep]; exact fun e => hne e.symm
      · simp only [if_neg ep]; exact H'.nl o (ho.resolve_right ep)
end

/-! The frames of the text's order. -/
theorem det_pick {α : Type} {R : α → Prop} : ∀ {x : RT α}, (detA x).holds R → ∃ y, x.holds (fun z => z = y) ∧ R y
  | .ok a, H => ⟨a, rfl, H⟩
  | .bad _, H => H.elim
  | .all _ _, H => H.elim
  | .br b x y, H => by
    cases b
    · obtain ⟨z, h1, h2⟩ := det_pick (x := y) (H.2 rfl)
      exact ⟨z, ⟨(fun h => by cases h), fun _ => h1⟩, h2⟩
    · obtain ⟨z, h1, h2⟩ := det_pick (x := x) (H.1 rfl)
      exact ⟨z, ⟨fun _ => h1, (fun h => by cases h)⟩, h2⟩
/-- what told t tells it still -/
def LeT (F F' : Tm) (t : Nat) : Prop := ∀ E v, Rel E (look t F.tm) v → Rel E (look t F'.tm) v
def putQ (o : Oper) (F1 : Tm) (h : Hp) (F2 : Tm) : Tm := match o.dst with
  | some d => { F1 with tm := (d, calm h (look d F2.tm)) :: F1.tm }
  | none => F1
/-- one step of the text's order -/
structure StepQ (P : Program) (call : FuncId → Spec) (ops : Array Oper) (h : Hp) (o : Oper) (F F1 F' : Tm) : Prop where
  nt : F1.nt = F.nt
  df : F1.df = F.df
  le : ∀ t, LeT F F1 t
  st : (evStep P call ops o (only (o.looksAt ops) F1) h).holds fun r => quietH h r.2 = true ∧ F' = putQ o F1 h r.1
theorem actQ_st {call : FuncId → Spec} {ops : Array Oper} {o : Oper} {F1 F' : Tm} (H : (actQ P call ops o F1 h).holds fun z => z = F') : (evStep P call ops o (only (o.looksAt ops) F1) h).holds fun r => quietH h r.2 = true ∧ F' = putQ o F1 h r.1 := by
  unfold actQ at H
  rw [RT.holds_bind] at H
  refine RT.holds_mono (fun r hr => ?_) _ H
  cases hq : quietH h r.2
  · rw [hq] at hr; exact hr.elim
  · rw [hq] at hr
    refine ⟨rfl, ?_⟩
    unfold putQ
    simp only [cond_true] at hr
    split at hr
    · rename_i d hd; rw [hd]; exact hr.symm
    · rename_i hd; rw [hd]; exact hr.symm
theorem leT_setA {d : Nat} {kn b : Bool} (hl : look d F.tm = .sc kn (.bool b)) (t : Nat) : LeT F (setA F d b) t := fun E v hv => by
  simp only [setA, look_cons]
  cases hb : Nat.beq d t
  · exact hv
  · obtain rfl := Nat.eq_of_beq_eq_true hb
    rw [hl] at hv
    exact ⟨hv.1, rfl⟩
theorem evQ1_st {call : FuncId → Spec} {ops : Array Oper} {o : Oper} {F' : Tm} (H : (evQ1 P call ops o F h).holds fun z => z = F') : ∃ F1, StepQ P call ops h o F F1 F' := by
  unfold evQ1 at H
  split at H
  · exact ⟨F, rfl, rfl, fun _ _ _ h => h, actQ_st H⟩
  · split at H
    · exact H.elim
    · rename_i d hd
      split at H
      · rename_i kn b hl
        rcases brk_holds H with ⟨rfl, H2⟩ | ⟨rfl, H2⟩
        · exact ⟨setA F d true, rfl, rfl, leT_setA hl, actQ_st H2⟩
        · exact ⟨setA F d false, rfl, rfl, leT_setA hl, actQ_st H2⟩
      · exact ⟨F, rfl, rfl, fun _ _ _ h => h, actQ_st H⟩
      · exact H.elim
theorem evQs_frames {call : FuncId → Spec} {ops : Array Oper} {K : Tm → Prop} : ∀ (l : List Oper) (F : Tm), (evQs P call ops h l F).holds K → ∃ Fs : Nat → Tm, Fs 0 = F ∧ (∀ i o, l[i]? = some o → ∃ F1, StepQ P call ops h o (Fs i) F1 (Fs (i + 1))) ∧ K (Fs l.length)
  | [], F, H => ⟨fun _ => F, rfl, fun i o hi => by simp at hi, H⟩
  | o :: l, F, H => by
    have H' : ((detA (evQ1 P call ops o F h)).bind (evQs P call ops h l)).holds K := H
    rw [RT.holds_bind] at H'
    obtain ⟨F', h1, h2⟩ := det_pick H'
    obtain ⟨Fs, g1, g2, g3⟩ := evQs_frames l F' h2
    refine ⟨fun i => match i with | 0 => F | i + 1 => Fs i, rfl, fun i o' hi => ?_, g3⟩
    cases i with
    | zero =>
      simp only [List.getElem?_cons_zero, Option.some.injEq] at hi
      subst hi
      obtain ⟨F1, hF⟩ := evQ1_st h1
      exact ⟨F1, by rw [← g1] at hF; exact hF⟩
    | succ i => exact g2 i o' (by simpa using hi)
/-- how many are not listed -/
def unl (listed : Array Bool) : Nat → Nat
  | 0 => 0
  | n + 1 => unl listed n + if listed.getD n true = true then 0 else 1
theorem unl_le (listed : Array Bool) : ∀ n, unl listed n ≤ n
  | 0 => Nat.le_refl _
  | n + 1 => by have := unl_le listed n; unfold unl; split <;> omega
theorem unl_set {listed : Array Bool} {k : Nat} (hk : listed.getD k true = false) : ∀ n, unl (listed.setIfInBounds k true) n + (if k < n then 1 else 0) = unl listed n
  | 0 => rfl
  | n + 1 => by
    have ih := unl_set hk n
    simp only [unl]
    by_cases hkn : k = n
    · subst hkn
      have h1 : (listed.setIfInBounds k true).getD k true = true := by
        rw [Array.getD_eq_getD_getElem?]
        rcases Nat.lt_or_ge k listed.size with h | h
        · rw [Array.getElem?_setIfInBounds_self_of_lt h]; rfl
        · rw [Array.getElem?_eq_none (by simpa using h)]; rfl
      rw [h1, hk]
      simp only [Nat.lt_irrefl, if_false, Nat.add_zero] at ih
      rw [ih]; simp
    · rw [getD_set_ne true hkn]
      have e : (k < n + 1) = (k < n) := by apply propext; omega
      rw [← ih]; simp only [e]; split <;> split <;> omega
end

section
variable {P : Program} {w0 : World} {G : Nat → Prop} {Q : Exit → Act → World → Prop}
theorem put_other {a : Act} {dst : Option Tmp} {v : Value} {t : Nat} (h : dst ≠ some t) : (a.put dst v).tmps.getD t undef = a.tmps.getD t undef := by
  cases dst with
  | none => rfl
  | some d =>
    have : d ≠ t := fun e => h (by rw [e])
    simp only [Act.put, Array.getD_eq_getD_getElem?, Array.getElem?_setIfInBounds_ne this]
theorem put_size {a : Act} {dst : Option Tmp} {v : Value} : (a.put dst v).tmps.size = a.tmps.size := by unfold Act.put; split <;> simp
theorem getD_of_true {listed : Array Bool} {k : Nat} (h : listed.getD k false = true) (d : Bool) : listed.getD k d = true := by
  rw [Array.getD_eq_getD_getElem?] at h ⊢
  cases hk : listed[k]? with
  | none => rw [hk] at h; cases h
  | some x => rw [hk] at h; exact h
/-- what is asked of the first m operations, and of the others -/
structure OkQ (ops : Array Oper) (m : Nat) : Prop where
  le : m ≤ ops.size
  kind : ∀ k o, k < m → ops[k]? = some o → isQuietO o = true
  top : ∀ k o, ops[k]? = some o → ∀ e ∈ o.after, Region.binds .any e = true → e.on < k
  pair : ∀ k ok j oj d, k < m → j < m → ops[k]? = some ok → ops[j]? = some oj → j ≠ k → oj.dst = some d → ok.dst ≠ some d ∧ (d ∈ ok.looksAt ops → waits j ok = true ∨ waits k oj = true)
  wait : ∀ i k, i < m → m ≤ k → k < ops.size → i ∈ cov ops k m m
  row : ∀ k j, m ≤ k → k < j → j < ops.size → rdyB ops (fun x => Nat.blt x k) j = false
theorem leadQ_le : ∀ l : List Oper, leadQ l ≤ l.length
  | [] => Nat.le_refl _
  | o :: l => by
    have := leadQ_le l
    unfold leadQ
    cases isQuietO o
    · exact Nat.zero_le _
    · simp only [cond_true, List.length_cons]; omega
theorem leadQ_kind : ∀ (l : List Oper) (k : Nat) (o : Oper), k < leadQ l → l[k]? = some o → isQuietO o = true
  | [], k, o, h, ho => by simp at ho
  | x :: l, k, o, h, ho => by
    unfold leadQ at h
    cases hx : isQuietO x
    · rw [hx] at h; simp at h
    · rw [hx] at h
      simp only [cond_true] at h
      cases k with
      | zero => simp at ho; subst ho; exact hx
      | succ k => exact leadQ_kind l k o (by omega) (by simpa using ho)
theorem blt_lt {a b : Nat} (h : Nat.blt a b = true) : a < b := Nat.lt_of_lt_of_le (Nat.lt_succ_self _) (Nat.le_of_ble_eq_true h)
theorem lt_blt {a b : Nat} (h : a < b) : Nat.blt a b = true := Nat.ble_eq_true_of_le h
theorem okQ_ok {ops : Array Oper} (h : quietR ops = true) : OkQ ops (leadQ ops.toList) := by
  unfold quietR at h
  cases h0 : unord ops
  · rw [h0] at h; cases h
  rw [h0] at h
  simp only [cond_true] at h
  cases h1 : okQ ops (leadQ ops.toList)
  · rw [h1] at h; cases h
  rw [h1] at h
  simp only [cond_true] at h
  have hk : ∀ k ok, ops[k]? = some ok → (ok.after.all (fun e => !(Region.binds .any e) || Nat.blt e.on k) && (bif Nat.blt k (leadQ ops.toList) then (List.range (leadQ ops.toList)).all fun j => Nat.beq j k || okPair ops k ok j else true)) = true := fun k ok hok => by
    unfold okQ at h1
    have := List.all_eq_true.1 h1 k (List.mem_range.2 (Array.getElem?_eq_some_iff.1 hok).1)
    rw [hok] at this
    exact this
  have hs : ∀ k, leadQ ops.toList ≤ k → k < ops.size → ((List.range (leadQ ops.toList)).all (fun i => (cov ops k (leadQ ops.toList) (leadQ ops.toList)).contains i) && (List.range ops.size).all (fun j => !(Nat.blt k j) || !(rdyB ops (fun x => Nat.blt x k) j))) = true := fun k hk hks => by
    unfold sufOk at h
    have := List.all_eq_true.1 h k (List.mem_range.2 hks)
    cases hb : Nat.blt k (leadQ ops.toList)
    · rw [hb, Bool.false_or] at this; exact this
    · have := blt_lt hb; omega
  refine ⟨by have := leadQ_le ops.toList; rwa [Array.length_toList] at this, fun k o hk' ho => leadQ_kind _ k o hk' (by rw [Array.getElem?_toList]; exact ho), fun k o ho e he hb => ?_, fun k ok j oj d hkm hjm hok hoj hne hd => ?_, fun i k hi hm hks => ?_, fun k j hm hkj hjs => ?_⟩
  · have := hk k o ho
    rw [Bool.and_eq_true] at this
    have h1 := Array.all_eq_true'.1 this.1 e he
    rw [hb, Bool.not_true, Bool.false_or] at h1
    exact blt_lt h1
  · have := hk k ok hok
    rw [Bool.and_eq_true, lt_blt hkm, cond_true] at this
    have h1 := List.all_eq_true.1 this.2 j (List.mem_range.2 hjm)
    have hjk : Nat.beq j k = false := by
      cases hb : Nat.beq j k
      · rfl
      · exact absurd (Nat.eq_of_beq_eq_true hb) hne
    rw [hjk, Bool.false_or] at h1
    unfold okPair at h1
    rw [hoj] at h1
    simp only [hd, Bool.and_eq_true, Bool.or_eq_true, Bool.not_eq_true'] at h1
    refine ⟨fun e => ?_, fun hm => ?_⟩
    · have := h1.1
      unfold sameDst at this
      rw [e] at this
      simp at this
    · rcases h1.2 with (h2 | h2) | h2
      · rw [List.contains_eq_mem, decide_eq_true hm] at h2; cases h2
      · exact .inl h2
      · exact .inr h2
  · have := hs k hm hks
    rw [Bool.and_eq_true] at this
    have := List.all_eq_true.1 this.1 i (List.mem_range.2 hi)
    rw [List.contains_eq_mem] at this
    exact of_decide_eq_true this
  · have := hs k hm (by omega)
    rw [Bool.and_eq_true] at this
    have := List.all_eq_true.1 this.2 j (List.mem_range.2 hjs)
    rw [lt_blt hkj, Bool.not_true, Bool.false_or, Bool.not_eq_true'] at this
    exact this
theorem waits_on {j : Nat} {o : Oper} (hw : waits j o = true) : ∃ e ∈ o.after, Region.binds .any e = true ∧ e.on = j := by
  unfold waits at hw
  obtain ⟨e, he, h2⟩ := Array.any_eq_true'.1 hw
  simp only [Bool.and_eq_true, beq_iff_eq] at h2
  exact ⟨e, he, h2.1, h2.2⟩
section
variable {ops : Array Oper} {Fs : Nat → Tm} {call : FuncId → Spec} {h : Hp} {m : Nat}
theorem rdy_of {listed : Array Bool} {S : Nat → Bool} {k : Nat} (hk : k ∈ Region.ready .any ops listed) (hS : ∀ x, listed.getD x false = true → S x = true) : rdyB ops S k = true := by
  obtain ⟨_, o, ho, hall⟩ := mem_ready.1 hk
  unfold rdyB
  rw [ho]
  refine Array.all_eq_true'.2 fun e he => ?_
  cases hb : Region.binds .any e
  · rfl
  · rw [Bool.not_true, Bool.false_or]; exact hS _ (hall e he hb)
theorem putQ_other {o : Oper} {F1 F2 : Tm} {t : Nat} (ht : o.dst ≠ some t) : look t (putQ o F1 h F2).tm = look t F1.tm := by
  unfold putQ
  split
  · rename_i d hd
    have : d ≠ t := fun e => ht (by rw [hd, e])
    simp only [look_cons]
    cases hb : Nat.beq d t
    · rfl
    · exact absurd (Nat.eq_of_beq_eq_true hb) this
  · rfl
theorem putQ_same {o : Oper} {F1 F2 : Tm} : (putQ o F1 h F2).nt = F1.nt ∧ (putQ o F1 h F2).df = F1.df := by unfold putQ; split <;> exact ⟨rfl, rfl⟩
/-- the frames, all of them -/
structure Frs (P : Program) (call : FuncId → Spec) (ops : Array Oper) (m : Nat) (h : Hp) (Fs : Nat → Tm) : Prop where
  st : ∀ k o, k < m → ops[k]? = some o → ∃ F1, StepQ P call ops h o (Fs k) F1 (Fs (k + 1))
  ok : OkQ ops m
theorem Frs.one (fr : Frs P call ops m h Fs) {k : Nat} (hk : k < m) : (Fs (k + 1)).nt = (Fs k).nt ∧ (Fs (k + 1)).df = (Fs k).df ∧ ∀ t, (∀ o, ops[k]? = some o → o.dst ≠ some t) → LeT (Fs k) (Fs (k + 1)) t := by
  have hks : k < ops.size := Nat.lt_of_lt_of_le hk fr.ok.le
  have ho : ops[k]? = some ops[k] := Array.getElem?_eq_getElem hks
  obtain ⟨F1, S⟩ := fr.st k _ hk ho
  have hl : ∃ r : Tm × Hp, Fs (k + 1) = putQ ops[k] F1 h r.1 := by
    have := S.st
    generalize evStep P call ops ops[k] (only (ops[k].looksAt ops) F1) h = T at this
    induction T with
    | ok r => exact ⟨r, this.2⟩
    | bad _ => exact this.elim
    | br b x y ihx ihy =>
      cases b
      · exact ihy (this.2 rfl)
      · exact ihx (this.1 rfl)
    | all x y ihx _ => exact ihx this.1
  obtain ⟨r, hr⟩ := hl
  rw [hr]
  refine ⟨(putQ_same).1.trans S.nt, (putQ_same).2.trans S.df, fun t ht E v hv => ?_⟩
  rw [putQ_other (ht _ ho)]
  exact S.le t E v hv
theorem Frs.same (fr : Frs P call ops m h Fs) : ∀ k, k ≤ m → (Fs k).nt = (Fs 0).nt ∧ (Fs k).df = (Fs 0).df
  | 0, _ => ⟨rfl, rfl⟩
  | k + 1, hk => by
    obtain ⟨h1, h2, _⟩ := fr.one (k := k) (by omega)
    obtain ⟨h3, h4⟩ := fr.same k (by omega)
    exact ⟨h1.trans h3, h2.trans h4⟩
theorem Frs.mono (fr : Frs P call ops m h Fs) {t i : Nat} : ∀ j, i ≤ j → j ≤ m → (∀ k o, i ≤ k → k < j → ops[k]? = some o → o.dst ≠ some t) → LeT (Fs i) (Fs j) t
  | 0, hi, _, _ => by
    obtain rfl : i = 0 := by omega
    exact fun _ _ h => h
  | j + 1, hi, hj, hno => by
    rcases Nat.lt_or_ge i (j + 1) with hlt | hge
    · have ih := fr.mono (t := t) (i := i) j (by omega) (by omega) fun k o h1 h2 => hno k o h1 (by omega)
      obtain ⟨_, _, h3⟩ := fr.one (k := j) (by omega)
      exact fun E v hv => h3 t (fun o ho => hno j o (by omega) (by omega) ho) E v (ih E v hv)
    · obtain rfl : i = j + 1 := by omega
      exact fun _ _ h => h
/-- who writes a temporary writes it alone -/
theorem OkQ.alone (ok : OkQ ops m) {t j i : Nat} {oj oi : Oper} (hjm : j < m) (him : i < m) (hoj : ops[j]? = some oj) (hdj : oj.dst = some t) (hoi : ops[i]? = some oi) (hne : i ≠ j) : oi.dst ≠ some t :=
  (ok.pair i oi j oj t him hjm hoi hoj (Ne.symm hne) hdj).1
/-- what stands when so many have come up -/
structure InvQ (P : Program) (w0 : World) (G : Nat → Prop) (ops : Array Oper) (m : Nat) (h : Hp) (Fs : Nat → Tm) (bl : Nat → Nat) (listed : Array Bool) (E : Env) (w : World) (a : Act) : Prop where
  sz : a.tmps.size = (Fs 0).nt
  df : RelD E (Fs 0).df a.defers
  ls : listed.size = ops.size
  put : ∀ t k o, k < m → ops[k]? = some o → o.dst = some t → listed.getD k true = true → Rel E (look t (Fs (k + 1)).tm) (a.tmps.getD t undef)
  old : ∀ t, (∀ k o, k < m → ops[k]? = some o → o.dst = some t → listed.getD k true = false) → Rel E (look t (Fs 0).tm) (a.tmps.getD t undef)
  cl : ∀ k o, k < m → ops[k]? = some o → listed.getD k true = true → ∀ e ∈ o.after, Region.binds .any e = true → listed.getD e.on false = true
  suf : ∀ k, m ≤ k → k < ops.size → listed.getD k true = false
  al : ∀ k o e d, k < m → ops[k]? = some o → isAllocO o = true → o.op = .alloc e → o.dst = some d → listed.getD k true = true → ∃ cs, zeroA P e = some cs ∧ Held w0 G E w (calmL h cs) (bl k) (a.tmps.getD d undef)
  inj : ∀ k k' o o', k < m → k' < m → ops[k]? = some o → ops[k']? = some o' → isAllocO o = true → isAllocO o' = true → listed.getD k true = true → listed.getD k' true = true → bl k = bl k' → k = k'
theorem listed_lt {listed : Array Bool} (hs : listed.size = ops.size) {j : Nat} {d : Bool} (hj : j < ops.size) (h : listed.getD j d = true) (d' : Bool) : listed.getD j d' = true := by
  rw [Array.getD_eq_getD_getElem?, Array.getElem?_eq_getElem (by omega)] at h ⊢
  exact h
variable {bl : Nat → Nat}
/-- what an operation looks at, when it comes up -/
theorem InvQ.looks {listed : Array Bool} {E : Env} {w : World} {a : Act} (fr : Frs P call ops m h Fs) (I : InvQ P w0 G ops m h Fs bl listed E w a) {k : Nat} {o : Oper} (hkm : k < m) (hk : k ∈ Region.ready .any ops listed) (ho : ops[k]? = some o) {t : Nat} (ht : t ∈ o.looksAt ops) : Rel E (look t (Fs k).tm) (a.tmps.getD t undef) := by
  obtain ⟨hun, o', ho', hall⟩ := mem_ready.1 hk
  obtain rfl : o = o' := Option.some.inj (ho.symm.trans ho')
  have hms := fr.ok.le
  by_cases hw : ∃ (j : Nat) (oj : Oper), j < m ∧ ops[j]? = some oj ∧ oj.dst = some t ∧ j ≠ k
  · obtain ⟨j, oj, hjm, hoj, hdj, hne⟩ := hw
    rcases (fr.ok.pair k o j oj t hkm hjm ho hoj hne hdj).2 ht with hwt | hwt
    · obtain ⟨e, he, hb, rfl⟩ := waits_on hwt
      have hlt := fr.ok.top k o ho e he hb
      have hlj := getD_of_true (hall e he hb) true
      exact fr.mono k (by omega) (by omega) (fun i oi h1 h2 hoi => fr.ok.alone hjm (by omega) hoj hdj hoi (by omega)) E _ (I.put t _ oj hjm hoj hdj hlj)
    · obtain ⟨e, he, hb, hek⟩ := waits_on hwt
      have hlt := fr.ok.top j oj hoj e he hb
      rw [hek] at hlt
      have huj : listed.getD j true = false := by
        cases hlj : listed.getD j true
        · rfl
        · have := I.cl j oj hjm hoj hlj e he hb
          rw [hek] at this
          rw [getD_of_true this true] at hun
          cases hun
      refine fr.mono k (Nat.zero_le _) (by omega) (fun i oi _ h2 hoi => fr.ok.alone hjm (by omega) hoj hdj hoi (by omega)) E _ (I.old t fun i oi him hoi hdi => ?_)
      by_cases hij : i = j
      · subst hij; exact huj
      · exact absurd hdi (fr.ok.alone hjm him hoj hdj hoi hij)
  · refine fr.mono k (Nat.zero_le _) (by omega) (fun i oi _ h2 hoi hdi => hw ⟨i, oi, by omega, hoi, hdi, by omega⟩) E _ (I.old t fun i oi him hoi hdi => ?_)
    by_cases hik : i = k
    · subst hik; exact hun
    · exact absurd ⟨i, oi, him, hoi, hdi, hik⟩ hw
/-- who comes up while one of the first lacks is one of the first -/
theorem InvQ.ready_lt {listed : Array Bool} {E : Env} {w : World} {a : Act} (fr : Frs P call ops m h Fs) (I : InvQ P w0 G ops m h Fs bl listed E w a) {i k : Nat} (him : i < m) (hun : listed.getD i true = false) (hk : k ∈ Region.ready .any ops listed) : k < m := by
  have hms := fr.ok.le
  rcases Nat.lt_or_ge k m with h | hge
  · exact h
  · have hks : k < ops.size := by
      obtain ⟨_, o, ho, _⟩ := mem_ready.1 hk
      exact (Array.getElem?_eq_some_iff.1 ho).1
    obtain ⟨_, o, ho, hall⟩ := mem_ready.1 hk
    have key : ∀ c, c ≤ m → ∀ q ∈ cov ops k m c, q < m ∧ listed.getD q false = true := fun c => by
      induction c with
      | zero => intro _ q hq; cases hq
      | succ c ih =>
        intro hc q hq
        have ih := ih (by omega)
        unfold cov at hq
        cases hb : wtB ops (m - (c + 1)) k || (cov ops k m c).any (fun j => wtB ops (m - (c + 1)) j)
        · rw [hb] at hq; exact ih q hq
        · rw [hb, cond_true] at hq
          rcases List.mem_cons.1 hq with rfl | hq
          · refine ⟨by omega, ?_⟩
            rcases (by simpa only [Bool.or_eq_true] using hb : wtB ops (m - (c + 1)) k = true ∨ (cov ops k m c).any (fun j => wtB ops (m - (c + 1)) j) = true) with h1 | h1
            · unfold wtB at h1
              rw [ho] at h1
              obtain ⟨e, he, hbe, heq⟩ := waits_on h1
              rw [← heq]; exact hall e he hbe
            · obtain ⟨j, hj, h2⟩ := List.any_eq_true.1 h1
              obtain ⟨hjm, hjl⟩ := ih j hj
              unfold wtB at h2
              split at h2
              · rename_i oj hoj
                obtain ⟨e, he, hbe, heq⟩ := waits_on h2
                rw [← heq]; exact I.cl j oj hjm hoj (getD_of_true hjl true) e he hbe
              · cases h2
          · exact ih q hq
    have := (key m (Nat.le_refl _) i (fr.ok.wait i k him hge hks)).2
    rw [getD_of_true this true] at hun
    cases hun
theorem quietO {o : Oper} (h : isQuietO o = true) : ∀ F : Tm, deferA o F = none := fun F => by
  unfold deferA
  split
  · rename_i c hc
    unfold isQuietO earlyA isCallO isAllocO at h
    rw [hc] at h
    cases h
  · rfl
/-- how a new variable is made -/
theorem alloc_step {o : Oper} {F : Tm} {e d : Nat} (ha : isAllocO o = true) (hop : o.op = .alloc e) (hd : o.dst = some d) {K : Tm × Hp → Prop} (H : (evStep P call ops o F h).holds K) :
    (evStep P call ops o F h).holds fun r => K r ∧ ∃ cs, zeroA P e = some cs ∧ r.2 = (newA cs h).2 ∧ look d r.1.tm = .ptr h.nx 0 := by
  have hg : o.guard = none := by
    unfold isAllocO at ha
    rw [hop, hd] at ha
    cases hg : o.guard with
    | none => rfl
    | some _ => rw [hg] at ha; cases ha
  have e1 : evStep P call ops o F h = (match zeroA P e with | some cs => (putA F (some d) (newA cs h).1).bind fun F => .ok (F, (newA cs h).2) | none => .bad 84) := by
    unfold evStep guardA
    rw [hg]
    have hdf : deferA o F = none := by unfold deferA; rw [hop]
    simp only [hdf, evOp, hop]
    cases zeroA P e with
    | none => rfl
    | some cs => simp only [hd]; rfl
  rw [e1] at H ⊢
  cases hz : zeroA P e with
  | none => rw [hz] at H; exact H.elim
  | some cs =>
    rw [hz] at H
    simp only [putA] at H ⊢
    cases hb : Nat.blt d F.nt
    · rw [hb] at H; exact H.elim
    · rw [hb] at H
      refine ⟨H, cs, rfl, rfl, ?_⟩
      show look d ((d, AV.ptr h.nx 0) :: F.tm) = _
      simp [look_cons]
/-- the first part comes up, in whatever order -/
theorem part_one (hcall : CallOk P call) (fr : Frs P call ops m h Fs) {Es : Env} {ws : World}
    (hn : ∀ n bl E' a' w' listed, unl listed m ≤ 0 → ops.size ≤ n + m → Stepd P w0 G Es h ws E' h w' → InvQ P w0 G ops m h Fs bl listed E' w' a' → wpAny P .any ops Q n listed a' w') :
    ∀ (c n : Nat) {bl : Nat → Nat} {listed : Array Bool} {E : Env} {w : World} {a : Act}, unl listed m ≤ c → c + (ops.size - m) ≤ n → Stepd P w0 G Es h ws E h w → InvQ P w0 G ops m h Fs bl listed E w a → wpAny P .any ops Q n listed a w
  | 0, n, bl, listed, E, w, a, hu, hcn, S, I => hn n bl E a w listed hu (by have := fr.ok.le; omega) S I
  | c + 1, n, bl, listed, E, w, a, hu, hcn, S, I => by
    by_cases hall0 : ∃ i, i < m ∧ listed.getD i true = false
    case neg =>
      refine hn n bl E a w listed ?_ (by have := fr.ok.le; omega) S I
      have : ∀ q, q ≤ m → unl listed q = 0 := fun q => by
        induction q with
        | zero => intro _; rfl
        | succ q ih =>
          intro hq
          unfold unl
          rw [ih (by omega)]
          have : listed.getD q true = true := by
            cases hl : listed.getD q true
            · exact absurd ⟨q, by omega, hl⟩ hall0
            · rfl
          rw [this]; rfl
      exact Nat.le_of_eq (this m (Nat.le_refl _))
    obtain ⟨i0, hi0, hun0⟩ := hall0
    have hms := fr.ok.le
    obtain ⟨n, rfl⟩ : ∃ n', n = n' + 1 := ⟨n - 1, by omega⟩
    have hne : Region.ready .any ops listed ≠ [] := fun hr => by
      have : ∀ i, i < m → listed.getD i true = true := by
        intro i
        induction i using Nat.strongRecOn with
        | ind i ih =>
          intro hi
          cases hl : listed.getD i true
          · have ho : ops[i]? = some ops[i] := Array.getElem?_eq_getElem (by omega)
            have : i ∈ Region.ready .any ops listed := mem_ready.2 ⟨hl, _, ho, fun e he hb => by
              have hlt := fr.ok.top i _ ho e he hb
              exact listed_lt I.ls (by omega) (ih e.on hlt (by omega)) false⟩
            rw [hr] at this
            cases this
          · rfl
      rw [this i0 hi0] at hun0
      cases hun0
    refine ⟨fun hr => absurd hr hne, fun k hk => ?_⟩
    have hkm := I.ready_lt fr hi0 hun0 hk
    obtain ⟨hun, o, ho, hall⟩ := mem_ready.1 hk
    have hks : k < ops.size := (Array.getElem?_eq_some_iff.1 ho).1
    obtain ⟨F1, hS⟩ := fr.st k o hkm ho
    obtain ⟨hnt, hdf⟩ := fr.same k (by omega)
    have hT : RelT E (only (o.looksAt ops) F1) a := by
      refine ⟨I.sz.trans (hnt.symm.trans hS.nt.symm), fun t => ?_, by show RelD E F1.df _; rw [hS.df, hdf]; exact I.df⟩
      show Rel E (look t ((o.looksAt ops).map fun t => (t, look t F1.tm))) _
      rw [look_only]
      split
      · rename_i ht; exact hS.le t E _ (I.looks fr hkm hk ho ht)
      · trivial
    have hcount := unl_set hun m
    rw [if_pos hkm] at hcount
    have hgk : (listed.setIfInBounds k true).getD k true = true := by
      rw [Array.getD_eq_getD_getElem?, Array.getElem?_setIfInBounds_self_of_lt (by rw [I.ls]; exact hks)]; rfl
    -- behind the step
    have fin : ∀ {F2 : Tm} {h2 : Hp} {E2 : Env} {v : Value} {w2 : World}, quietH h h2 = true → Fs (k + 1) = putQ o F1 h F2 → Stepd P w E.mine E h w E2 h2 w2 → RelT E2 F2 (a.put o.dst v) →
        (∀ e d, isAllocO o = true → o.op = .alloc e → o.dst = some d → ∃ cs, zeroA P e = some cs ∧ h2 = (newA cs h).2 ∧ look d F2.tm = .ptr h.nx 0) →
        wpAny P .any ops Q n (listed.setIfInBounds k true) (a.put o.dst v) w2 := fun {F2 h2 E2 v w2} hqu hF hsm hT2 hal => by
      have hs2 := hsm.under S.inv
      have S3 := S.inv.forget hs2 hqu
      have hcalm := calm_rel S.inv hs2 hqu
      have hoth : ∀ {t i : Nat} {oi : Oper}, i < m → ops[i]? = some oi → oi.dst = some t → i ≠ k → (a.put o.dst v).tmps.getD t undef = a.tmps.getD t undef := fun him hoi hdi hne => put_other (fr.ok.alone him hkm hoi hdi ho (Ne.symm hne))
      have hset : ∀ {i : Nat}, i ≠ k → (listed.setIfInBounds k true).getD i true = listed.getD i true := fun hne => getD_set_ne true (Ne.symm hne)
      refine part_one hcall fr hn c n (bl := fun i => if i = k then E2.β h.nx else bl i) (by omega) (by omega) (S.trans S3) ⟨put_size.trans I.sz, by rw [put_defers]; exact I.df.mono S3.ext, by rw [Array.size_setIfInBounds]; exact I.ls, fun t i oi him hoi hdi hli => ?_, fun t hun' => ?_, fun i oi him hoi hli e he hb => ?_, fun i hmi his => ?_, fun i oi e d him hoi hai hopi hdi hli => ?_, fun i i' oi oi' him him' hoi hoi' hai hai' hli hli' heq => ?_⟩
      · by_cases hik : i = k
        · subst hik
          obtain rfl : oi = o := Option.some.inj (hoi.symm.trans ho)
          rw [hF]
          unfold putQ
          rw [hdi]
          simp only [look_cons]
          have : Nat.beq t t = true := by simp
          rw [this, cond_true]
          have := hT2.tm t
          rw [hdi] at this
          exact hcalm _ _ this
        · rw [hoth him hoi hdi hik]
          rw [hset hik] at hli
          exact Rel.mono S3.ext _ _ (I.put t i oi him hoi hdi hli)
      · have hdk : o.dst ≠ some t := fun e => by
          have := hun' k o hkm ho e
          rw [hgk] at this
          cases this
        rw [put_other hdk]
        refine Rel.mono S3.ext _ _ (I.old t fun i oi him hoi hdi => ?_)
        have hik : i ≠ k := fun e => by subst e; obtain rfl : oi = o := Option.some.inj (hoi.symm.trans ho); exact hdk hdi
        have := hun' i oi him hoi hdi
        rwa [hset hik] at this
      · by_cases hik : i = k
        · subst hik
          obtain rfl : oi = o := Option.some.inj (hoi.symm.trans ho)
          exact getD_set_true (hall e he hb)
        · rw [hset hik] at hli
          exact getD_set_true (I.cl i oi him hoi hli e he hb)
      · rw [hset (by omega)]; exact I.suf i hmi his
      · by_cases hik : i = k
        · subst hik
          obtain rfl : oi = o := Option.some.inj (hoi.symm.trans ho)
          obtain ⟨cs, hz, rfl, hlk⟩ := hal e d hai hopi hdi
          have hv := hT2.tm d
          rw [hlk, hdi] at hv
          refine ⟨cs, hz, ?_⟩
          rw [if_pos rfl, hdi]
          exact (held_new S.inv hsm hqu hv).1
        · rw [hset hik] at hli
          obtain ⟨cs, hz, hH⟩ := I.al i oi e d him hoi hai hopi hdi hli
          rw [if_neg hik, hoth him hoi hdi hik]
          exact ⟨cs, hz, hH.step hsm⟩
      · have far : ∀ {j : Nat} {oj : Oper}, j < m → ops[j]? = some oj → isAllocO oj = true → j ≠ k → listed.getD j true = true → isAllocO o = true → bl j ≠ E2.β h.nx := fun {j oj} hjm hoj haj hjk hlj hao he => by
          obtain ⟨e0, he0, d0, hd0⟩ : ∃ e0, o.op = .alloc e0 ∧ ∃ d0, o.dst = some d0 := by
            unfold isAllocO at hao
            split at hao
            · rename_i h1 _ h3; exact ⟨_, h1, _, h3⟩
            · cases hao
          obtain ⟨e1, he1, d1, hd1⟩ : ∃ e0, oj.op = .alloc e0 ∧ ∃ d0, oj.dst = some d0 := by
            unfold isAllocO at haj
            split at haj
            · rename_i h1 _ h3; exact ⟨_, h1, _, h3⟩
            · cases haj
          obtain ⟨cs, hz, rfl, hlk⟩ := hal e0 d0 hao he0 hd0
          have hv := hT2.tm d0
          rw [hlk, hd0] at hv
          have h1 := (held_new S.inv hsm hqu hv).2
          obtain ⟨cs', _, hH⟩ := I.al j oj e1 d1 hjm hoj haj he1 hd1 hlj
          have h2 := hH.lt
          rw [he] at h2
          omega
        by_cases hik : i = k <;> by_cases hik' : i' = k
        · rw [hik, hik']
        · rw [if_pos hik, if_neg hik'] at heq
          rw [hset hik'] at hli'
          subst hik
          obtain rfl : oi = o := Option.some.inj (hoi.symm.trans ho)
          exact absurd heq.symm (far him' hoi' hai' hik' hli' hai)
        · rw [if_neg hik, if_pos hik'] at heq
          rw [hset hik] at hli
          subst hik'
          obtain rfl : oi' = o := Option.some.inj (hoi'.symm.trans ho)
          exact absurd heq (far him hoi hai hik hli hai')
        · rw [if_neg hik, if_neg hik'] at heq
          rw [hset hik] at hli
          rw [hset hik'] at hli'
          exact I.inj i i' oi oi' him him' hoi hoi' hai hai' hli hli' heq
    unfold wpOp
    rw [ho]
    cases hao : isAllocO o
    · exact evStepQ_ok hcall (quietO (fr.ok.kind k o hkm ho)) hS.st S.inv.top hT fun F2 h2 E2 v w2 hk2 hs2 hT2 => fin hk2.1 hk2.2 hs2 hT2 fun e d h1 => by rw [hao] at h1; cases h1
    · obtain ⟨e0, he0, d0, hd0⟩ : ∃ e0, o.op = .alloc e0 ∧ ∃ d0, o.dst = some d0 := by
        have hao' := hao
        unfold isAllocO at hao'
        split at hao'
        · rename_i h1 _ h3; exact ⟨_, h1, _, h3⟩
        · cases hao'
      refine evStepQ_ok hcall (quietO (fr.ok.kind k o hkm ho)) (alloc_step hao he0 hd0 hS.st) S.inv.top hT fun F2 h2 E2 v w2 hk2 hs2 hT2 => fin hk2.1.1 hk2.1.2 hs2 hT2 fun e d _ h1 h2 => ?_
      rw [he0] at h1
      rw [hd0] at h2
      cases h1
      cases h2
      exact hk2.2
end
end
section
variable {P : Program} {w0 : World} {G : Nat → Prop} {Q : Exit → Act → World → Prop} {ops : Array Oper} {Fs : Nat → Tm} {call : FuncId → Spec} {h : Hp} {m : Nat} {bl : Nat → Nat}
theorem unl_zero {listed : Array Bool} : ∀ {n : Nat}, unl listed n ≤ 0 → ∀ i, i < n → listed.getD i true = true
  | 0, _, i, hi => by omega
  | n + 1, hu, i, hi => by
    unfold unl at hu
    by_cases hin : i = n
    · subst hin
      cases hl : listed.getD i true
      · rw [hl] at hu; simp at hu
      · rfl
    · exact unl_zero (n := n) (by omega) i (by omega)
/-- the others come up in their row -/
theorem part_two (hcall : CallOk P call) (ok : OkQ ops m) {K : Tm × Hp → Prop} : ∀ (c n k : Nat) {listed : Array Bool} {F : Tm} {h : Hp} {E : Env} {w : World} {a : Act}, ops.size ≤ k + c → m ≤ k → k ≤ ops.size → listed.size = ops.size → (∀ i, i < ops.size → listed.getD i true = Nat.blt i k) →
    (evList P call ops (ops.toList.drop k) F h).holds K → Inv P w0 G E h w → RelT E F a → Cont P w0 G E h w K (Q .normal) → ops.size ≤ n + k → wpAny P .any ops Q n listed a w := by
  intro c
  induction c with
  | zero =>
    intro n k listed F h E w a hc hm hks hs hl H I hT hn hnk
    obtain rfl : k = ops.size := by omega
    have hr : Region.ready .any ops listed = [] := by
      cases hr : Region.ready .any ops listed with
      | nil => rfl
      | cons j r =>
        have hj : j ∈ Region.ready .any ops listed := by rw [hr]; exact List.mem_cons_self
        obtain ⟨hun, o, ho, _⟩ := mem_ready.1 hj
        have hjs := (Array.getElem?_eq_some_iff.1 ho).1
        rw [hl j hjs, lt_blt hjs] at hun
        cases hun
    have hd : ops.toList.drop ops.size = [] := List.drop_eq_nil_of_le (by simp)
    rw [hd] at H
    have hq : Q .normal a w := hn _ _ _ _ _ H (Stepd.refl I) hT
    cases n with
    | zero => exact ⟨hr, hq⟩
    | succ n => exact ⟨fun _ => hq, fun j hj => by rw [hr] at hj; cases hj⟩
  | succ c ih =>
    intro n k listed F h E w a hc hm hks hs hl H I hT hn hnk
    by_cases hke : k = ops.size
    · exact ih n k (by omega) hm hks hs hl H I hT hn hnk
    have hlt : k < ops.size := by omega
    obtain ⟨n, rfl⟩ : ∃ n', n = n' + 1 := ⟨n - 1, by omega⟩
    have ho : ops[k]? = some ops[k] := Array.getElem?_eq_getElem hlt
    have hself : Nat.blt k k = false := by
      cases hb : Nat.blt k k
      · rfl
      · have := blt_lt hb; omega
    have hkr : k ∈ Region.ready .any ops listed := mem_ready.2 ⟨by rw [hl k hlt]; exact hself, _, ho, fun e he hb => by
      have h1 := ok.top k _ ho e he hb
      exact listed_lt hs (by omega) (by rw [hl e.on (by omega)]; exact lt_blt h1) false⟩
    refine ⟨fun hr => (by rw [hr] at hkr; cases hkr), fun j hj => ?_⟩
    have hjk : j = k := by
      obtain ⟨hun, o, hoj, _⟩ := mem_ready.1 hj
      have hjs := (Array.getElem?_eq_some_iff.1 hoj).1
      rw [hl j hjs] at hun
      have hge : k ≤ j := by
        rcases Nat.lt_or_ge j k with h | h
        · rw [lt_blt h] at hun; cases hun
        · exact h
      rcases Nat.lt_or_ge k j with h | h
      · have := rdy_of (S := fun x => Nat.blt x k) hj fun x hx => by
          have hxs : x < ops.size := by
            rw [← hs]
            rcases Nat.lt_or_ge x listed.size with h | h
            · exact h
            · rw [Array.getD_eq_getD_getElem?, Array.getElem?_eq_none h] at hx; cases hx
          have := listed_lt hs hxs hx true
          rw [hl x hxs] at this
          exact this
        rw [ok.row k j hm h hjs] at this
        cases this
      · omega
    subst hjk
    have hdr : ops.toList.drop j = ops[j] :: ops.toList.drop (j + 1) := by
      rw [List.drop_eq_getElem_cons (by simpa using hlt)]
      simp
    rw [hdr, evList_cons, RT.holds_bind] at H
    unfold wpOp
    rw [ho]
    refine evStep_ok hcall H I hT fun F' h' E' a' w' hk hs' hT' => ?_
    refine ih n (j + 1) (by omega) (by omega) (by omega) (by rw [Array.size_setIfInBounds]; exact hs) (fun i hi => ?_) hk hs'.inv hT' (hn.step hs') (by omega)
    by_cases hij : i = j
    · subst hij
      rw [Array.getD_eq_getD_getElem?, Array.getElem?_setIfInBounds_self_of_lt (by omega)]
      exact (lt_blt (Nat.lt_succ_self i)).symm
    · rw [getD_set_ne true (Ne.symm hij), hl i hi]
      cases h1 : Nat.blt i j <;> cases h2 : Nat.blt i (j + 1)
      · rfl
      · have := blt_lt h2
        have h3 : i < j := by omega
        rw [lt_blt h3] at h1; cases h1
      · have := blt_lt h1
        have h3 : i < j + 1 := by omega
        rw [lt_blt h3] at h2; cases h2
      · rfl
/-- the new variables are taken in -/
theorem adopt_ok {h0 : Hp} {w : World} {a : Act} {K : Tm × Hp → Prop} : ∀ (l : List Oper) (bl : Nat → Nat) (F : Tm) (h : Hp) (E : Env), (adoptQ P h0 l F h).holds K → Inv P w0 G E h w → RelT E F a →
    (∀ i o e d, l[i]? = some o → isAllocO o = true → o.op = .alloc e → o.dst = some d → ∃ cs, zeroA P e = some cs ∧ Held w0 G E w (calmL h0 cs) (bl i) (a.tmps.getD d undef)) →
    (∀ i i' o o', l[i]? = some o → l[i']? = some o' → isAllocO o = true → isAllocO o' = true → bl i = bl i' → i = i') →
    ∃ F' h' E', K (F', h') ∧ Stepd P w0 G E h w E' h' w ∧ RelT E' F' a
  | [], bl, F, h, E, H, I, hT, _, _ => ⟨F, h, E, H, Stepd.refl I, hT⟩
  | o :: l, bl, F, h, E, H, I, hT, hal, hinj => by
    have hinj' : ∀ i i' o o', l[i]? = some o → l[i']? = some o' → isAllocO o = true → isAllocO o' = true → bl (i + 1) = bl (i' + 1) → i = i' := fun i i' o1 o2 h1 h2 h3 h4 h5 => by
      have := hinj (i + 1) (i' + 1) o1 o2 (by simpa using h1) (by simpa using h2) h3 h4 h5
      omega
    have H' : (bif isAllocO o then (match o.op, o.dst with
      | .alloc e, some d => match zeroA P e with
        | some cs => adoptQ P h0 l { F with tm := (d, .ptr h.nx 0) :: F.tm } (newA (calmL h0 cs) h).2
        | none => .bad 235
      | _, _ => .bad 236) else adoptQ P h0 l F h : RT (Tm × Hp)).holds K := H
    cases ha : isAllocO o
    · rw [ha] at H'
      exact adopt_ok l (fun i => bl (i + 1)) F h E H' I hT (fun i o' e d ho => hal (i + 1) o' e d (by simpa using ho)) hinj'
    · rw [ha] at H'
      simp only [cond_true] at H'
      obtain ⟨e0, he0, d0, hd0⟩ : ∃ e0, o.op = .alloc e0 ∧ ∃ d0, o.dst = some d0 := by
        have ha' := ha
        unfold isAllocO at ha'
        split at ha'
        · rename_i h1 _ h3; exact ⟨_, h1, _, h3⟩
        · cases ha'
      rw [he0, hd0] at H'
      obtain ⟨cs, hz, hH⟩ := hal 0 o e0 d0 rfl ha he0 hd0
      simp only [hz] at H'
      obtain ⟨E1, S1, r1, hk1⟩ := I.adopt hH
      have hT1 : RelT E1 { F with tm := (d0, .ptr h.nx 0) :: F.tm } a := by
        refine ⟨hT.sz, fun t => ?_, hT.df.mono S1.ext⟩
        simp only [look_cons]
        cases hb : Nat.beq d0 t
        · exact Rel.mono S1.ext _ _ (hT.tm t)
        · obtain rfl := Nat.eq_of_beq_eq_true hb
          exact r1
      obtain ⟨F', h', E', k1, k2, k3⟩ := adopt_ok l (fun i => bl (i + 1)) _ _ E1 H' S1.inv hT1 (fun i o' e d ho hao' heo hdo => by
        obtain ⟨cs', hz', hH'⟩ := hal (i + 1) o' e d (by simpa using ho) hao' heo hdo
        refine ⟨cs', hz', hk1 _ _ _ (fun heq => ?_) hH'⟩
        have := hinj (i + 1) 0 o' o (by simpa using ho) rfl hao' ha heq
        omega) hinj'
      exact ⟨F', h', E', k1, S1.trans k2, k3⟩
theorem InvQ.done {listed : Array Bool} {E : Env} {w : World} {a : Act} (fr : Frs P call ops m h Fs) (I : InvQ P w0 G ops m h Fs bl listed E w a) (hall : ∀ i, i < m → listed.getD i true = true) : RelT E (Fs m) a := by
  obtain ⟨h1, h2⟩ := fr.same m (Nat.le_refl _)
  refine ⟨I.sz.trans h1.symm, fun t => ?_, by rw [h2]; exact I.df⟩
  by_cases hw : ∃ (j : Nat) (oj : Oper), j < m ∧ ops[j]? = some oj ∧ oj.dst = some t
  · obtain ⟨j, oj, hjm, hoj, hdj⟩ := hw
    exact fr.mono m (by omega) (Nat.le_refl _) (fun i oi h1 h2 hoi => fr.ok.alone hjm h2 hoj hdj hoi (by omega)) E _ (I.put t j oj hjm hoj hdj (hall j hjm))
  · exact fr.mono m (Nat.zero_le _) (Nat.le_refl _) (fun i oi _ h2 hoi hdi => hw ⟨i, oi, h2, hoi, hdi⟩) E _ (I.old t fun i oi him hoi hdi => absurd ⟨i, oi, him, hoi, hdi⟩ hw)
/-- **such a region** -/
theorem evReg_ok (hcall : CallOk P call) (hr : quietR ops = true) {F : Tm} {K : Tm × Hp → Prop} (H : (evReg P call ops F h).holds K) {E : Env} {w : World} {a : Act} (I : Inv P w0 G E h w) (hT : RelT E F a)
    (hn : Cont P w0 G E h w K (Q .normal)) : wpAny P .any ops Q ops.size (Array.replicate ops.size false) a w := by
  have ok := okQ_ok hr
  unfold evReg at H
  rw [RT.holds_bind] at H
  generalize hm : leadQ ops.toList = m at H ok
  obtain ⟨Fs, g1, g2, g3⟩ := evQs_frames (ops.toList.take m) F H
  have hle := ok.le
  have hlen : (ops.toList.take m).length = m := by rw [List.length_take]; simp; omega
  have hget : ∀ (i : Nat) (o : Oper), i < m → ((ops.toList.take m)[i]? = some o ↔ ops[i]? = some o) := fun i o hi => by
    rw [List.getElem?_take_of_lt hi, Array.getElem?_toList]
  have fr : Frs P call ops m h Fs := ⟨fun k o hk ho => g2 k o ((hget k o hk).2 ho), ok⟩
  rw [hlen] at g3
  have hf : ∀ (k : Nat), k < ops.size → (Array.replicate ops.size false).getD k true = false := fun k hk => by
    rw [Array.getD_eq_getD_getElem?, Array.getElem?_replicate, if_pos hk]; rfl
  have hf' : ∀ (k : Nat) (o : Oper), ops[k]? = some o → (Array.replicate ops.size false).getD k true = false := fun k o ho => hf k (Array.getElem?_eq_some_iff.1 ho).1
  refine part_one hcall fr (Es := E) (ws := w) (fun n bl E' a' w' listed hu hnm S' I' => ?_) m ops.size (bl := fun _ => 0) (unl_le _ _) (by omega) (Stepd.refl I)
    ⟨by rw [g1]; exact hT.sz, by rw [g1]; exact hT.df, by simp, fun t k o _ ho _ hl => ?_, fun t _ => by rw [g1]; exact hT.tm t, fun k o _ ho hl => ?_, fun k _ hk => hf k hk, fun k o e d _ ho _ _ _ hl => ?_, fun k k' o o' _ _ ho _ _ _ hl => ?_⟩
  · have hall := unl_zero hu
    have hT' := I'.done fr hall
    rw [RT.holds_bind] at g3
    obtain ⟨F2, h2, E2, k1, k2, k3⟩ := adopt_ok (ops.toList.take m) bl (Fs m) h E' g3 S'.inv hT'
      (fun i o e d ho hao heo hdo => by
        have him : i < m := by have := (List.getElem?_eq_some_iff.1 ho).1; omega
        exact I'.al i o e d him ((hget i o him).1 ho) hao heo hdo (hall i him))
      (fun i i' o o' ho ho' hao hao' heq => by
        have him : i < m := by have := (List.getElem?_eq_some_iff.1 ho).1; omega
        have him' : i' < m := by have := (List.getElem?_eq_some_iff.1 ho').1; omega
        exact I'.inj i i' o o' him him' ((hget i o him).1 ho) ((hget i' o' him').1 ho') hao hao' (hall i him) (hall i' him') heq)
    refine part_two hcall ok ops.size n m (by omega) (Nat.le_refl _) hle I'.ls (fun i hi => ?_) k1 k2.inv k3 (hn.step (S'.trans k2)) hnm
    rcases Nat.lt_or_ge i m with h | h
    · rw [hall i h, lt_blt h]
    · rw [I'.suf i h hi]
      cases hb : Nat.blt i m
      · rfl
      · have := blt_lt hb; omega
  · rw [hf' k o ho] at hl; cases hl
  · rw [hf' k o ho] at hl; cases hl
  · rw [hf' k o ho] at hl; cases hl
  · rw [hf' k o ho] at hl; cases hl
end
end
end Go.Proofs.YtcambhbmobepjaaGreat

namespace Go.Proofs.YtcambhbmobepjaaGreat
set_option linter.unusedSimpArgs false
set_option linter.unusedVariables false
open Go.RowKit
set_option maxRecDepth 10000
noncomputable section

def Ex.to : Ex → Exit
  | .normal => .normal
  | .exit id => .exit id
  | .ret => .ret
def Post (P : Program) (w0 : World) (G : Nat → Prop) (E : Env) (h : Hp) (w : World) (K : Out → Prop) (Q : Exit → Act → World → Prop) : Prop :=
  ∀ ex F' h' E' a' w', K (ex, F', h') → Stepd P w0 G E h w E' h' w' → RelT E' F' a' → Q ex.to a' w'
theorem Post.step {P : Program} {w0 w w1 : World} {G : Nat → Prop} {E E1 : Env} {h h1 : Hp} {K : Out → Prop} {Q : Exit → Act → World → Prop} (hp : Post P w0 G E h w K Q) (hs : Stepd P w0 G E h w E1 h1 w1) : Post P w0 G E1 h1 w1 K Q :=
  fun ex F' h' E' a' w' hk hs' hT => hp ex F' h' E' a' w' hk (hs.trans hs') hT
/-- a block is told right -/
def BOk (P : Program) (c : Code) (sp : BSpec) : Prop := ∀ F h K, (sp F h).holds K → ∀ w0 G E w a Q, Inv P w0 G E h w → RelT E F a → Post P w0 G E h w K Q → c.wp P Q a w
def blocksOf (id : Nat) : Code → List Code
  | .seq a b => blocksOf id a ++ blocksOf id b
  | .cond _ a b => blocksOf id a ++ blocksOf id b
  | .block j b => (if j = id then [.block j b] else []) ++ blocksOf id b
  | .loop b => blocksOf id b
  | _ => []
def LamOk (P : Program) (Λ : FuncId → Nat → Option BSpec) (f : FuncId) (c : Code) : Prop := ∀ id sp, Λ f id = some sp → ∀ c' ∈ blocksOf id c, BOk P c' sp
def LamAll (P : Program) (Λ : FuncId → Nat → Option BSpec) : Prop := ∀ f fn b, plainF P f = some (fn, b) → LamOk P Λ f b
/-- a function is told right -/
def SoundF (P : Program) (g : FuncId) (sp : Spec) : Prop := ∀ args h K, (sp args h).holds K → ∀ w0 G E w vals, Inv P w0 G E h w → RelL E args vals →
  Calls P g vals.toArray w fun e w' => ∃ r h' v E', K (r, h') ∧ e = .returned v ∧ Stepd P w0 G E h w E' h' w' ∧ Rel E' r v
def GamOk (P : Program) (Γ : FuncId → Option Spec) : Prop := ∀ g sp, Γ g = some sp → SoundF P g sp

section
variable {P : Program} {E : Env} {F : Tm} {h : Hp} {w w0 : World} {G : Nat → Prop} {a : Act} {Γ : FuncId → Option Spec} {Λ : FuncId → Nat → Option BSpec}

theorem Inv.drew (I : Inv P w0 G E h w) (n : Nat) : Stepd P w0 G E h w E h { w with drawn := n } :=
  ⟨Ext.refl E, ⟨⟨I.kpt.os, I.kpt.tape, I.kpt.output, I.kpt.size, I.kpt.block⟩, I.m, I.ng, I.gn, I.gnlt, I.live, I.nx, I.ob, I.own, I.inj, I.z, I.zob, I.vec, I.vinj⟩, fun _ _ => ⟨Nat.le_refl _, fun _ => rfl⟩, fun _ _ _ hz => .inl hz⟩

theorem look_zip : ∀ (args : List AV) (s i : Nat), look i ((List.range' s args.length).zip args) = if s ≤ i ∧ i < s + args.length then (args[i - s]?).getD .any else .any
  | [], s, i => by simp [look_nil]
  | x :: args, s, i => by
    simp only [List.length_cons, List.range'_succ, List.zip_cons_cons, look_cons]
    rw [look_zip args (s + 1) i]
    cases hb : Nat.beq s i
    · have hne : s ≠ i := fun e => by rw [e] at hb; simp at hb
      simp only [cond_false]
      by_cases hc : s + 1 ≤ i ∧ i < s + 1 + args.length
      · rw [if_pos hc, if_pos ⟨by omega, by omega⟩, show i - s = (i - (s + 1)) + 1 by omega, List.getElem?_cons_succ]
      · rw [if_neg hc, if_neg (by omega)]
    · obtain rfl := Nat.eq_of_beq_eq_true hb
      simp
theorem enterA_ok {fn : Func} {args : List AV} {vals : List Value} (hr : RelL E args vals) (hle : args.length ≤ fn.ntmps) : RelT E (enterA fn args) { tmps := vals.toArray ++ Array.replicate (fn.ntmps - vals.toArray.size) undef, defers := [] } := by
  have hl := hr.length
  refine ⟨by simp [enterA]; omega, fun i => ?_, rfl⟩
  have hz := look_zip args 0 i
  rw [← List.range_eq_range'] at hz
  simp only [enterA]
  rw [hz]
  by_cases hi : i < args.length
  · rw [if_pos ⟨Nat.zero_le _, by omega⟩, Nat.sub_zero]
    obtain ⟨v, hv, hrv⟩ := hr.get (List.getElem?_eq_getElem hi)
    rw [List.getElem?_eq_getElem hi, Option.getD_some, Array.getD_eq_getD_getElem?, Array.getElem?_append_left (by simpa [← hl] using hi)]
    simpa [hv] using hrv
  · rw [if_neg (by omega)]; exact trivial
theorem run_loadAt_asAddr {t : TypeId} {v u : Value} (hl : (Instr.loadAt t v).run P w = .ok u w) : (do loadVar t (← asAddr v) : Sem Value).run P w = .ok u w := by
  cases v with
  | pointer ad =>
    cases ad with
    | some ad => simpa [Instr.loadAt, Instr.sureAddr, asAddr] using hl
    | none => simp [Instr.loadAt, Instr.sureAddr, stuck] at hl
  | _ => simp [Instr.loadAt, Instr.sureAddr, stuck] at hl
def rsOf (t : Array Value) : ResultVar → Sem Value
  | .tmp x => pure (t.getD x undef)
  | .cell x ty => do loadVar ty (← asAddr (t.getD x undef))
theorem resA_ok {K : List AV → Prop} : ∀ {rs : List ResultVar}, (resA P F h rs).holds K → Inv P w0 G E h w → RelT E F a → ∃ vs us, K vs ∧ RelL E vs us ∧
    (rs.mapM (m := Sem) (rsOf a.tmps)).run P w = .ok us w
  | [], H, _, _ => ⟨[], [], H, rfl, rfl⟩
  | .tmp t :: rs, H, I, hT => by
    simp only [resA] at H
    rw [RT.holds_bind] at H
    obtain ⟨vs, us, h1, h2, h3⟩ := resA_ok H I hT
    refine ⟨_, a.tmps.getD t undef :: us, h1, ⟨_, _, rfl, hT.tm t, h2⟩, ?_⟩
    simp only [List.mapM_cons, rsOf, Sem.run_bind, Sem.run_pure, Result.andThen_ok, h3]
  | .cell x t :: rs, H, I, hT => by
    simp only [resA] at H
    rw [RT.holds_bind] at H
    obtain ⟨av, u, g1, g2, g3⟩ := loadA_ok H I (hT.tm x)
    rw [RT.holds_bind] at g1
    obtain ⟨vs, us, h1, h2, h3⟩ := resA_ok g1 I hT
    refine ⟨_, u :: us, h1, ⟨_, _, rfl, g3, h2⟩, ?_⟩
    have := run_loadAt_asAddr (g2 w (I.sees _))
    simp only [Sem.run_bind] at this
    simp only [List.mapM_cons, rsOf, Sem.run_bind, this, Sem.run_pure, Result.andThen_ok, h3]
theorem resultA_ok {K : AV × Hp → Prop} {fn : Func} (H : (resultA P fn F h).holds K) (I : Inv P w0 G E h w) (hT : RelT E F a) : ∃ r v, K (r, h) ∧ Rel E r v ∧ (results fn a.tmps).run P w = .ok v w := by
  unfold resultA at H
  rw [RT.holds_bind] at H
  obtain ⟨vs, us, h1, h2, h3⟩ := resA_ok H I hT
  have hres : (results fn a.tmps).run P w = .ok (if h : us.toArray.size = 1 then us.toArray[0] else .tuple us.toArray) w := by
    show (do let vs ← fn.results.mapM (rsOf a.tmps); pure (if h : vs.size = 1 then vs[0] else .tuple vs) : Sem Value).run P w = _
    rw [Array.mapM_eq_mapM_toList]
    have : (List.toArray <$> List.mapM (m := Sem) (rsOf a.tmps) fn.results.toList).run P w = .ok us.toArray w := by
      show (List.mapM (m := Sem) (rsOf a.tmps) fn.results.toList >>= fun l => pure l.toArray : Sem _).run P w = _
      rw [Sem.run_bind, h3]
      rfl
    rw [Sem.run_bind, this]
    rfl
  split at h1
  · rename_i av
    obtain ⟨u, us', rfl, g1, g2⟩ := h2
    have g2' : us' = [] := g2
    subst g2'
    exact ⟨av, u, h1, g1, by rw [hres]; simp⟩
  · rename_i hne
    refine ⟨.tup vs, .tuple us.toArray, h1, ⟨_, rfl, by simpa using h2⟩, ?_⟩
    rw [hres]
    have hl := h2.length
    rw [dif_neg]
    intro h0
    have : vs.length = 1 := by rw [hl]; simpa using h0
    obtain ⟨x, rfl⟩ := List.length_eq_one_iff.1 this
    exact hne x rfl

theorem plainF_ok {f : FuncId} {fn : Func} {b : Code} (hp : plainF P f = some (fn, b)) : P.funcs[f]? = some fn ∧ fn.body = some b := by
  unfold plainF at hp
  split at hp
  · rename_i fn' hf
    split at hp
    · rename_i c hc
      cases hp; exact ⟨hf, hc⟩
    · cases hp
  · cases hp
/-- code, at a depth -/
def CodeOk (P : Program) (Γ : FuncId → Option Spec) (Λ : FuncId → Nat → Option BSpec) (n : Nat) : Prop := ∀ f c F h K, (evC P Γ Λ n f c F h).holds K → LamOk P Λ f c → ∀ w0 G E w a Q, Inv P w0 G E h w → RelT E F a → Post P w0 G E h w K Q → c.wp P Q a w
/-- what a piece of code does -/
def RecOk (P : Program) (b : Code) (T : Tm → Hp → RT Out) : Prop := ∀ F h K, (T F h).holds K → ∀ w0 G E w a Q, Inv P w0 G E h w → RelT E F a → Post P w0 G E h w K Q → b.wp P Q a w
theorem runDf_ok (hng : noGor P = true) {rec : FuncId → Code → Tm → Hp → RT Out} {fn : Func} {tmps : Array Value} {R : Ending → World → Prop} (hrec : ∀ g fn b, plainF P g = some (fn, b) → RecOk P b (rec g b)) : ∀ {df : List (FuncId × List AV)} {ds : List Deferred} {K : Hp → Prop} {E : Env} {h : Hp} {w : World},
    (runDf P rec df h).holds K → Inv P w0 G E h w → RelD E df ds → (∀ h' E' w', K h' → Stepd P w0 G E h w E' h' w' → ∃ v, (results fn tmps).run P w' = .ok v w' ∧ R (.returned v) w') → Leaves P fn tmps R ds .returning w
  | [], ds, K, E, h, w, H, I, hD, hk => by
    have : ds = [] := hD
    subst this
    exact hk h E w H (Stepd.refl I)
  | (g, args) :: df, ds, K, E, h, w, H, I, ⟨cap, av, ds', h1, h2, h3⟩, hk => by
    subst h1
    unfold runDf at H
    split at H
    · exact H.elim
    rename_i gn b hp
    cases hle : Nat.ble args.length gn.ntmps
    · rw [hle] at H; exact H.elim
    rw [hle] at H
    simp only [cond_true] at H
    rw [RT.holds_bind] at H
    obtain ⟨hf, hb⟩ := plainF_ok hp
    refine leaves_cons (f := g) (args := (av.toList ++ cap.toList).toArray) (by simp) ?_ ?_
    · have harr : av ++ cap = (av.toList ++ cap.toList).toArray := by apply Array.ext'; simp
      simp only [invoke]
      rw [callFunc_plain ⟨by rw [hp]; rfl, hng⟩, harr]
    · refine (callsD_of_wp (R := fun e w' => ∃ v, e = .returned v ∧ Leaves P fn tmps R ds' .returning w') hf hb (hrec g gn b hp _ _ _ H w0 G E w _ _ I (enterA_ok h2 (Nat.le_of_ble_eq_true hle)) ?_)).mono ?_
      · intro ex F' h' E' a' w' hkx hs hT
        have fin : F'.df = [] → ((resultA P gn F' h').bind fun y => runDf P rec df y.2).holds K → a'.defers = [] ∧ ∃ v, (results gn a'.tmps).run P w' = .ok v w' ∧ ∃ v', Ending.returned v = .returned v' ∧ Leaves P fn tmps R ds' .returning w' := fun hdf hkx => by
          rw [RT.holds_bind] at hkx
          obtain ⟨r, v, k1, k2, k3⟩ := resultA_ok hkx hs.inv hT
          have hd0 := hT.df
          rw [hdf] at hd0
          exact ⟨hd0, v, k3, v, rfl, runDf_ok hng hrec k1 hs.inv (h3.mono hs.ext) fun h2 E2 w2 hk2 hs2 => hk h2 E2 w2 hk2 (hs.trans hs2)⟩
        cases ex with
        | exit id => exact hkx.elim
        | normal =>
          simp only at hkx
          split at hkx
          · rename_i e; cases e
          · rename_i _ hdf; exact fin (by first | exact hdf | assumption) hkx
          · exact hkx.elim
        | ret =>
          simp only at hkx
          split at hkx
          · rename_i e; cases e
          · rename_i _ hdf; exact fin (by first | exact hdf | assumption) hkx
          · exact hkx.elim
      · rintro e u' w' ⟨rfl, v, rfl, hl⟩
        exact hl
theorem bodyE_ok (hng : noGor P = true) {rec : FuncId → Code → Tm → Hp → RT Out} (hrec : ∀ g fn b, plainF P g = some (fn, b) → RecOk P b (rec g b)) {f : FuncId} {fn : Func} {b : Code} (hp : plainF P f = some (fn, b)) : SoundF P f (bodyE P rec f fn b) := by
  intro args h K H w0 G E w vals I hr
  unfold bodyE at H
  cases hle : Nat.ble args.length fn.ntmps
  · rw [hle] at H; exact H.elim
  rw [hle] at H
  simp only [cond_true] at H
  rw [RT.holds_bind] at H
  obtain ⟨hf, hb⟩ := plainF_ok hp
  refine calls_of_wp_defers hf hb (hrec f fn b hp _ _ _ H w0 G E w _ _ I (enterA_ok hr (Nat.le_of_ble_eq_true hle)) ?_)
  intro ex F' h' E' a' w' hk hs hT
  have fin : ((runDf P rec F'.df h').bind fun h => resultA P fn F' h).holds K → Leaves P fn a'.tmps (fun e w' => ∃ r h' v E', K (r, h') ∧ e = .returned v ∧ Stepd P w0 G E h w E' h' w' ∧ Rel E' r v) a'.defers .returning w' := fun hk => by
    rw [RT.holds_bind] at hk
    refine runDf_ok hng hrec hk hs.inv hT.df fun h2 E2 w2 hk2 hs2 => ?_
    obtain ⟨r, v, k1, k2, k3⟩ := resultA_ok hk2 hs2.inv (hT.mono hs2.ext)
    exact ⟨v, k3, r, h2, v, E2, k1, rfl, hs.trans hs2, k2⟩
  cases ex with
  | normal => exact fin hk
  | ret => exact fin hk
  | exit id => exact hk.elim
theorem callE_ok (hng : noGor P = true) {n : Nat} (hc : CodeOk P Γ Λ n) (hΓ : GamOk P Γ) (hΛ : LamAll P Λ) : CallOk P (callE P Γ (evC P Γ Λ n)) := by
  intro g args h K H
  unfold callE at H
  split at H
  · exact H.elim
  · rename_i fn b hp
    refine ⟨⟨by rw [hp]; rfl, hng⟩, fun w0 G E w vals I hr => ?_⟩
    split at H
    · rename_i sp hsp
      exact hΓ g sp hsp args h K H w0 G E w vals I hr
    · exact bodyE_ok hng (fun g fn b hp F h K H => hc g b F h K H (hΛ g fn b hp)) hp args h K H w0 G E w vals I hr
theorem codeOk (hm : Fit P) (hΓ : GamOk P Γ) (hΛ : LamAll P Λ) : ∀ n, CodeOk P Γ Λ n ∧
    ∀ f b F h K, (evC P Γ Λ n f (.loop b) F h).holds K → LamOk P Λ f b → ∀ w0 G E w a Q, Inv P w0 G E h w → RelT E F a → Post P w0 G E h w K Q → Code.rounds P b Q n a w
  | 0 => ⟨fun f c F h K H => by unfold evC at H; exact H.elim, fun f b F h K H => by unfold evC at H; exact H.elim⟩
  | n + 1 => by
    obtain ⟨ihc, ihl⟩ := codeOk hm hΓ hΛ n
    have hcall := callE_ok hm.2 ihc hΓ hΛ
    have loop : ∀ f b F h K, (evC P Γ Λ (n + 1) f (.loop b) F h).holds K → LamOk P Λ f b → ∀ w0 G E w a Q, Inv P w0 G E h w → RelT E F a → Post P w0 G E h w K Q → Code.rounds P b Q (n + 1) a w := by
      intro f b F h K H hL w0 G E w a Q I hT hp
      unfold evC at H
      simp only at H
      rw [RT.holds_bind] at H
      rw [rounds_succ]
      refine ihc f b F h _ H hL w0 G E w a _ I hT ?_
      intro ex F' h' E' a' w' hk hs hT'
      cases ex with
      | normal => exact ihl f b F' h' K hk hL w0 G E' w' a' Q hs.inv hT' (hp.step hs)
      | exit id => exact hp _ _ _ _ _ _ hk hs hT'
      | ret => exact hp _ _ _ _ _ _ hk hs hT'
    refine ⟨fun f c F h K H hL w0 G E w a Q I hT hp => ?_, loop⟩
    cases c with
    | skip => unfold evC at H; exact wp_skip (hp _ _ _ _ _ _ H (Stepd.refl I) hT)
    | ret => unfold evC at H; exact wp_ret (hp _ _ _ _ _ _ H (Stepd.refl I) hT)
    | exit id => unfold evC at H; exact wp_exit (hp _ _ _ _ _ _ H (Stepd.refl I) hT)
    | region id ops draw =>
      cases draw with
      | false =>
        unfold evC at H
        simp only at H
        rw [RT.holds_bind] at H
        exact wp_region_list (evList_ok hcall _ H I hT fun F' h' E' a' w' hk hs hT' => hp _ _ _ _ _ _ hk hs hT')
      | true =>
        unfold evC at H
        simp only at H
        cases hqr : asRow Λ f id ops
        case true =>
          rw [hqr] at H
          simp only [cond_true] at H
          rw [RT.holds_bind] at H
          have hq : quietR ops = true := by
            unfold asRow at hqr
            split at hqr
            · cases hqr
            · exact hqr
          have hd := I.drew (w.drawn + 1)
          exact Go.wp_mono (Q := fun e a w => e = .normal ∧ Q .normal a w) (wp_region_any hm.1 (evReg_ok hcall hq H hd.inv hT fun F' h' E' a' w' hk hs hT' => ⟨rfl, hp _ _ _ _ _ _ hk (hd.trans hs) hT'⟩)) (fun e a w hq => by obtain ⟨rfl, hq⟩ := hq; exact hq)
        rw [hqr] at H
        simp only [cond_false] at H
        cases hns : Region.noSelect ops
        · rw [hns] at H; exact H.elim
        rw [hns] at H
        simp only [cond_true] at H
        rw [RT.holds_bind] at H
        have hd := I.drew (w.drawn + 1)
        refine Go.wp_mono (Q := fun e a w => e = .normal ∧ Q .normal a w) (wp_region_any hm.1 (wpL_any _ _ [] _ _ (evDrawn_ok erOf_ok hcall hns (fun _ _ _ _ _ hq => by cases hq.1) _ H hd.inv hT .nil ?_))) (fun e a w hq => by obtain ⟨rfl, hq⟩ := hq; exact hq)
        exact fun F' h' E' a' w' hk hs hT' => ⟨rfl, hp _ _ _ _ _ _ hk (hd.trans hs) hT'⟩
    | seq x y =>
      unfold evC at H
      simp only at H
      rw [RT.holds_bind] at H
      refine wp_seq (ihc f x F h _ H (fun id sp hs c' hc' => hL id sp hs c' (List.mem_append_left _ hc')) w0 G E w a _ I hT ?_)
      intro ex F' h' E' a' w' hk hs hT'
      cases ex with
      | normal => exact ihc f y F' h' K hk (fun id sp hs c' hc' => hL id sp hs c' (List.mem_append_right _ hc')) w0 G E' w' a' Q hs.inv hT' (hp.step hs)
      | exit id => exact hp _ _ _ _ _ _ hk hs hT'
      | ret => exact hp _ _ _ _ _ _ hk hs hT'
    | cond c x y =>
      unfold evC at H
      simp only at H
      split at H
      · rename_i t
        split at H
        · rename_i kn b hl
          have hv := hT.tm t
          rw [hl] at hv
          have hev : a.eval (.tmp t) = .bool b := hv.1
          have hset := setA_ok hT hl
          rcases brk_holds H with ⟨rfl, H2⟩ | ⟨rfl, H2⟩
          · exact wp_cond_true hev (ihc f x _ h K H2 (fun id sp hs c' hc' => hL id sp hs c' (List.mem_append_left _ hc')) w0 G E w a Q I hset hp)
          · exact wp_cond_false hev (ihc f y _ h K H2 (fun id sp hs c' hc' => hL id sp hs c' (List.mem_append_right _ hc')) w0 G E w a Q I hset hp)
        · exact H.elim
      · exact H.elim
    | block id b =>
      unfold evC at H
      simp only at H
      split at H
      · rename_i sp hsp
        exact hL id sp hsp (.block id b) (by simp [blocksOf]) F h K H w0 G E w a Q I hT hp
      · rw [RT.holds_bind] at H
        refine wp_block (ihc f b F h _ H (fun i sp hs c' hc' => hL i sp hs c' (List.mem_append_right _ hc')) w0 G E w a _ I hT ?_)
        intro ex F' h' E' a' w' hk hs hT'
        cases ex with
        | normal => exact hp _ _ _ _ _ _ hk hs hT'
        | ret => exact hp _ _ _ _ _ _ hk hs hT'
        | exit j =>
          simp only at hk
          show Exit.inBlock id Q (.exit j) a' w'
          simp only [Exit.inBlock]
          cases hb : Nat.beq j id
          · rw [hb] at hk
            rw [if_neg (fun e => by rw [e] at hb; simp at hb)]
            exact hp _ _ _ _ _ _ hk hs hT'
          · rw [hb] at hk
            rw [if_pos (Nat.eq_of_beq_eq_true hb)]
            exact hp _ _ _ _ _ _ hk hs hT'
    | loop b => exact wp_loop_rounds (n + 1) (loop f b F h K H hL w0 G E w a Q I hT hp)
    | rangeFunc _ _ _ _ => unfold evC at H; exact H.elim
    | scope _ => unfold evC at H; exact H.elim
    | label _ => unfold evC at H; exact H.elim
    | goto _ => unfold evC at H; exact H.elim
    | refuse _ => unfold evC at H; exact H.elim
/-- **a function is told right by its own code** -/
theorem evF_ok (hm : Fit P) (hΓ : GamOk P Γ) (hΛ : LamAll P Λ) (n : Nat) (f : FuncId) : SoundF P f (evF P Γ Λ n f) := by
  intro args h K H
  unfold evF at H
  split at H
  · exact H.elim
  · rename_i fn b hp
    exact bodyE_ok hm.2 (fun g fn b hp F h K H => (codeOk hm hΓ hΛ n).1 g b F h K H (hΛ g fn b hp)) hp args h K H
end
end
end Go.Proofs.YtcambhbmobepjaaGreat

namespace Go.Proofs.YtcambhbmobepjaaGreat
set_option linter.unusedSimpArgs false
set_option linter.unusedVariables false
open Go.RowKit
set_option maxRecDepth 10000
noncomputable section

def ix (o : Nat) : List Nat → Nat → Option Nat
  | [], _ => none
  | k :: r, i => bif Nat.beq k o then some i else ix o r (i + 1)
theorem ix_some : ∀ {l : List Nat} {o s i : Nat}, ix o l s = some i → s ≤ i ∧ l[i - s]? = some o
  | [], _, _, _, h => by cases h
  | k :: r, o, s, i, h => by
    simp only [ix] at h
    cases hb : Nat.beq k o
    · rw [hb] at h
      obtain ⟨h1, h2⟩ := ix_some (l := r) h
      refine ⟨by omega, ?_⟩
      rw [show i - s = (i - (s + 1)) + 1 by omega]
      simpa using h2
    · rw [hb] at h
      cases h
      obtain rfl := Nat.eq_of_beq_eq_true hb
      simp
mutual
/-- a value under the new names: objects os, slices ks (their new stamps: g0 + j) -/
def ren (os ks : List Nat) (g0 : Nat) (gn : List (Nat × Nat × TypeId)) : AV → AV
  | .ptr o off => match ix o os 0 with | some i => .ptr i off | none => .any
  | .mp o => match ix o os 0 with | some i => .mp i | none => .any
  | .sl kn es d (some (k, g)) => match ix k ks 0, lookG k gn with
    | some j, some (g', _) => bif Nat.beq g g' then .sl kn es d (some (j, g0 + j)) else .sl kn es d none
    | _, _ => .sl kn es d none
  | .fn f a c => .fn f (renL os ks g0 gn a) (renL os ks g0 gn c)
  | .agg cs => .agg (renL os ks g0 gn cs)
  | .tup vs => .tup (renL os ks g0 gn vs)
  | .sl kn es d none => .sl kn es d none
  | .any => .any
  | .sc kn v => .sc kn v
  | .ep kn es d j => .ep kn es d j
  | .rsl kn o n len => match ix o os 0 with | some i => .rsl kn i n len | none => .any
  | .rp kn o n i j => match ix o os 0 with | some q => .rp kn q n i j | none => .any
  | .rw es d => .rw es d
def renL (os ks : List Nat) (g0 : Nat) (gn : List (Nat × Nat × TypeId)) : List AV → List AV
  | [] => []
  | x :: xs => ren os ks g0 gn x :: renL os ks g0 gn xs
end
def obR (os ks : List Nat) (g0 : Nat) (h : Hp) : List Nat → Nat → List (Nat × List AV)
  | [], _ => []
  | o :: r, i => match lookO o h.ob with
    | some cs => (i, renL os ks g0 h.gn cs) :: obR os ks g0 h r (i + 1)
    | none => obR os ks g0 h r (i + 1)
def gnR (g0 : Nat) (gn : List (Nat × Nat × TypeId)) : List Nat → Nat → List (Nat × Nat × TypeId)
  | [], _ => []
  | k :: r, j => match lookG k gn with
    | some (_, e) => (j, g0 + j, e) :: gnR g0 gn r (j + 1)
    | none => gnR g0 gn r (j + 1)
def Hp.ren (h : Hp) (os ks : List Nat) (g0 ep : Nat) : Hp := ⟨obR os ks g0 h os 0, os.length, gnR g0 h.gn ks 0, ks.length, g0 + ks.length, ep⟩
def Env.ren (E : Env) (os ks : List Nat) (g0 : Nat) : Env :=
  { β := fun i => E.β (os.getD i 0), live := fun i => ∃ o, os[i]? = some o ∧ E.live o, Z := E.Z, vc := fun j => E.vc (ks.getD j 0), gn := fun j => g0 + j, ve := fun j => E.ve (ks.getD j 0), m := ks.length, ng := g0 + ks.length }

section
variable {P : Program} {E : Env} {h : Hp} {w w0 : World} {G : Nat → Prop} {os ks : List Nat} {g0 : Nat}
mutual
theorem ren_rel (I : Inv P w0 G E h w) : ∀ (x : AV) (v : Value), Rel E x v → Rel (E.ren os ks g0) (ren os ks g0 h.gn x) v
  | .any, _, _ => trivial
  | .sc _ _, _, H => H
  | .ep _ _ _ _, _, H => H
  | .rw _ _, _, H => H
  | .rsl kn o n len, v, ⟨hl, ad, cap, g1, g2, g3, g4, g5⟩ => by
    simp only [ren]
    split
    · rename_i i hi
      obtain ⟨_, h1⟩ := ix_some hi
      simp only [Nat.sub_zero] at h1
      refine ⟨⟨o, h1, hl⟩, ad, cap, g1, g2, g3, g4, fun hn => ?_⟩
      simp only [Env.ren, List.getD_eq_getElem?_getD, h1, Option.getD_some]
      exact g5 hn
    · exact trivial
  | .rp kn o n i j, v, ⟨hl, hv⟩ => by
    simp only [ren]
    split
    · rename_i q hi
      obtain ⟨_, h1⟩ := ix_some hi
      simp only [Nat.sub_zero] at h1
      refine ⟨⟨o, h1, hl⟩, ?_⟩
      simp only [Env.ren, List.getD_eq_getElem?_getD, h1, Option.getD_some]
      exact hv
    · exact trivial
  | .ptr o off, v, ⟨hl, hv⟩ => by
    simp only [ren]
    split
    · rename_i i hi
      obtain ⟨_, h1⟩ := ix_some hi
      simp only [Nat.sub_zero] at h1
      refine ⟨⟨o, h1, hl⟩, ?_⟩
      simp only [Env.ren, List.getD_eq_getElem?_getD, h1, Option.getD_some]
      exact hv
    · exact trivial
  | .mp o, v, ⟨hl, hv⟩ => by
    simp only [ren]
    split
    · rename_i i hi
      obtain ⟨_, h1⟩ := ix_some hi
      simp only [Nat.sub_zero] at h1
      refine ⟨⟨o, h1, hl⟩, ?_⟩
      simp only [Env.ren, List.getD_eq_getElem?_getD, h1, Option.getD_some]
      exact hv
    · exact trivial
  | .sl kn es d none, v, H => H
  | .sl kn es d (some (k, g)), v, ⟨h1, hk, hg, hc⟩ => by
    simp only [ren]
    have hno : Rel (E.ren os ks g0) (.sl kn es d none) v := ⟨h1, trivial⟩
    split
    · rename_i j g' e hj hl
      cases hb : Nat.beq g g'
      · exact hno
      · obtain rfl := Nat.eq_of_beq_eq_true hb
        obtain ⟨_, h2⟩ := ix_some hj
        simp only [Nat.sub_zero] at h2
        have hjl := (List.getElem?_eq_some_iff.1 h2).1
        have hgn := (I.gn k (by rw [← I.m]; exact hk)).symm.trans hl
        injection hgn with hgn
        have hg1 : E.gn k = g := congrArg Prod.fst hgn
        refine ⟨h1, hjl, by show g0 + j < g0 + ks.length; omega, fun _ => ?_⟩
        simp only [Env.ren, List.getD_eq_getElem?_getD, h2, Option.getD_some]
        exact hc hg1
    · exact hno
  | .fn f a c, v, ⟨a', c', h1, h2, h3⟩ => ⟨a', c', h1, ren_relL I a _ h2, ren_relL I c _ h3⟩
  | .agg cs, v, ⟨cs', h1, h2, h3⟩ => ⟨cs', h1, ren_relL I cs _ h2, h3⟩
  | .tup vs, v, ⟨vs', h1, h2⟩ => ⟨vs', h1, ren_relL I vs _ h2⟩
theorem ren_relL (I : Inv P w0 G E h w) : ∀ (xs : List AV) (vs : List Value), RelL E xs vs → RelL (E.ren os ks g0) (renL os ks g0 h.gn xs) vs
  | [], _, H => H
  | x :: xs, _, ⟨v, vs', h1, h2, h3⟩ => ⟨v, vs', h1, ren_rel I x v h2, ren_relL I xs vs' h3⟩
end
theorem lookO_obR : ∀ (l : List Nat) (s i : Nat), lookO i (obR os ks g0 h l s) = if s ≤ i then (match l[i - s]? with | some o => (lookO o h.ob).map (renL os ks g0 h.gn) | none => none) else none
  | [], s, i => by simp [obR, lookO_nil]
  | o :: r, s, i => by
    have ih := lookO_obR r (s + 1) i
    have tail : s ≠ i → (if s + 1 ≤ i then (match r[i - (s + 1)]? with | some o => (lookO o h.ob).map (renL os ks g0 h.gn) | none => none) else none) = if s ≤ i then (match (o :: r)[i - s]? with | some o => (lookO o h.ob).map (renL os ks g0 h.gn) | none => none) else none := fun hne => by
      by_cases hs : s + 1 ≤ i
      · rw [if_pos hs, if_pos (by omega), show i - s = (i - (s + 1)) + 1 by omega, List.getElem?_cons_succ]
      · rw [if_neg hs, if_neg (by omega)]
    simp only [obR]
    split
    · rename_i cs hcs
      rw [lookO_cons]
      by_cases e : s = i
      · subst e; simp [hcs]
      · rw [if_neg e, ih, tail e]
    · rename_i hcs
      rw [ih]
      by_cases e : s = i
      · subst e; rw [if_neg (by omega), if_pos (Nat.le_refl _)]; simp [hcs]
      · rw [tail e]
theorem lookG_gnR {gn : List (Nat × Nat × TypeId)} : ∀ (l : List Nat) (s j : Nat), lookG j (gnR g0 gn l s) = if s ≤ j then (match l[j - s]? with | some k => (lookG k gn).map (fun p => (g0 + j, p.2)) | none => none) else none
  | [], s, j => by simp [gnR, lookG_nil]
  | k :: r, s, j => by
    have ih := lookG_gnR (gn := gn) r (s + 1) j
    have tail : s ≠ j → (if s + 1 ≤ j then (match r[j - (s + 1)]? with | some k => (lookG k gn).map (fun p => (g0 + j, p.2)) | none => none) else none) = if s ≤ j then (match (k :: r)[j - s]? with | some k => (lookG k gn).map (fun p => (g0 + j, p.2)) | none => none) else none := fun hne => by
      by_cases hs : s + 1 ≤ j
      · rw [if_pos hs, if_pos (by omega), show j - s = (j - (s + 1)) + 1 by omega, List.getElem?_cons_succ]
      · rw [if_neg hs, if_neg (by omega)]
    simp only [gnR]
    split
    · rename_i g e hk
      rw [lookG_cons]
      by_cases e : s = j
      · subst e; simp [hk]
      · rw [if_neg e, ih, tail e]
    · rename_i hk
      rw [ih]
      by_cases e : s = j
      · subst e; rw [if_neg (by omega), if_pos (Nat.le_refl _)]; simp [hk]
      · rw [tail e]
/-- the part of the heap that has new names -/
theorem Inv.ren (I : Inv P w0 G E h w) (ho : os.Nodup) (hk : ks.Nodup) (hkl : ∀ k ∈ ks, k < h.nv) (ep : Nat) : Inv P w0 G (E.ren os ks g0) (h.ren os ks g0 ep) w := by
  have key : ∀ {l : List Nat} {i : Nat}, i < l.length → ∃ o, l[i]? = some o ∧ l.getD i 0 = o ∧ o ∈ l := fun {l i} hi => ⟨l[i], List.getElem?_eq_getElem hi, by rw [List.getD_eq_getElem?_getD, List.getElem?_eq_getElem hi]; rfl, List.getElem_mem hi⟩
  have gd : ∀ {l : List Nat} {i o : Nat}, l[i]? = some o → l.getD i 0 = o := fun {l i o} hi => by rw [List.getD_eq_getElem?_getD, hi]; rfl
  have ndo : ∀ {l : List Nat}, l.Nodup → ∀ {i j o : Nat}, l[i]? = some o → l[j]? = some o → i = j := fun {l} hl {i j o} h1 h2 => by
    have hi := (List.getElem?_eq_some_iff.1 h1).1
    exact (List.getElem?_inj hi hl).1 (h1.trans h2.symm)
  refine ⟨I.kpt, rfl, rfl, fun j hj => ?_, fun j hj => ?_, fun i => ?_, fun i hi => ?_, fun i cs hcs => ?_, fun i hi => ?_, fun i i' hi hi' e => ?_, I.z, fun i j hi => ?_, fun j hj => ?_, fun j j' b hj hj' hb hb' => ?_⟩
  · have hjl : j < ks.length := hj
    obtain ⟨k, h1, h2, h3⟩ := key hjl
    have h4 : lookG j (gnR g0 h.gn ks 0) = some (g0 + j, E.ve k) := by
      rw [lookG_gnR]
      simp [h1, I.gn k (hkl k h3)]
    simpa [Hp.ren, Env.ren, List.getD_eq_getElem?_getD, h1] using h4
  · have hjl : j < ks.length := hj
    show g0 + j < g0 + ks.length
    omega
  · show (∃ o, os[i]? = some o ∧ E.live o) ↔ (lookO i (obR os ks g0 h os 0)).isSome = true
    rw [lookO_obR]
    simp only [Nat.zero_le, if_true, Nat.sub_zero]
    cases hi : os[i]? with
    | none => simp
    | some o => simp [I.live o]
  · obtain ⟨o, h1, _⟩ := hi
    exact (List.getElem?_eq_some_iff.1 h1).1
  · have hcs' : lookO i (obR os ks g0 h os 0) = some cs := hcs
    rw [lookO_obR] at hcs'
    simp only [Nat.zero_le, if_true, Nat.sub_zero] at hcs'
    cases hi : os[i]? with
    | none => rw [hi] at hcs'; cases hcs'
    | some o =>
      rw [hi] at hcs'
      cases hc : lookO o h.ob with
      | none => simp [hc] at hcs'
      | some cs0 =>
        simp only [hc, Option.map_some, Option.some.injEq] at hcs'
        subst hcs'
        obtain ⟨vs, t, g1, g2, g3⟩ := I.ob o cs0 hc
        refine ⟨vs, t, ?_, ren_relL I _ _ g2, g3⟩
        show w.heap[E.β (os.getD i 0)]? = _
        rw [gd hi]; exact g1
  · obtain ⟨o, h1, h2⟩ := hi
    show w0.heap.size ≤ E.β (os.getD i 0) ∨ G (E.β (os.getD i 0))
    rw [gd h1]; exact I.own o h2
  · obtain ⟨o, h1, h2⟩ := hi
    obtain ⟨o', h1', h2'⟩ := hi'
    have e' : E.β (os.getD i 0) = E.β (os.getD i' 0) := e
    rw [gd h1, gd h1'] at e'
    obtain rfl := I.inj o o' h2 h2' e'
    exact ndo ho h1 h1'
  · obtain ⟨o, h1, h2⟩ := hi
    show E.Z (E.β (os.getD i 0)) j = none
    rw [gd h1]; exact I.zob o j h2
  · have hjl : j < ks.length := hj
    obtain ⟨k, h1, h2, h3⟩ := key hjl
    obtain ⟨sz, n, xs, g1, g2, g3, g4⟩ := I.vec k (hkl k h3)
    have g4' : ∀ b, (E.vc k).ownBlock = some b → (w0.heap.size ≤ b ∨ G b) ∧ (∀ i, (E.ren os ks g0).live i → (E.ren os ks g0).β i ≠ b) ∧ ∀ j, E.Z b j = xs[j]? := fun b hb => by
      refine ⟨(g4 b hb).1, fun i hi => ?_, (g4 b hb).2.2⟩
      obtain ⟨o, h5, h6⟩ := hi
      show E.β (os.getD i 0) ≠ b
      rw [gd h5]; exact (g4 b hb).2.1 o h6
    refine ⟨sz, n, xs, ?_, ?_, g3, ?_⟩
    · show sizeT P (E.ve (ks.getD j 0)) = some sz
      rw [h2]; exact g1
    · show w.ownsRow 0 (E.ve (ks.getD j 0)) sz (E.vc (ks.getD j 0)) n xs
      rw [h2]; exact g2
    · show ∀ b, (E.vc (ks.getD j 0)).ownBlock = some b → _
      rw [h2]; exact g4'
  · obtain ⟨k, h1, h2, h3⟩ := key (show j < ks.length from hj)
    obtain ⟨k', h1', h2', h3'⟩ := key (show j' < ks.length from hj')
    have hb1 : (E.vc (ks.getD j 0)).ownBlock = some b := hb
    have hb2 : (E.vc (ks.getD j' 0)).ownBlock = some b := hb'
    rw [h2] at hb1
    rw [h2'] at hb2
    obtain rfl := I.vinj k k' b (hkl k h3) (hkl k' h3') hb1 hb2
    exact ndo hk h1 h1'
end
end
end Go.Proofs.YtcambhbmobepjaaGreat

namespace Go.Proofs.YtcambhbmobepjaaGreat
set_option linter.unusedSimpArgs false
set_option linter.unusedVariables false
open Go.RowKit
set_option maxRecDepth 10000
noncomputable section

/-- slice j of the part is slice bk of the whole -/
def bk (ks : List Nat) (m j : Nat) : Nat := bif Nat.blt j ks.length then ks.getD j 0 else m + (j - ks.length)
mutual
/-- a value of the part, told of the whole (slices below mk are kept) -/
def bak (os ks : List Nat) (m ng mk : Nat) (gn : List (Nat × Nat × TypeId)) : AV → AV
  | .ptr i off => match os[i]? with | some o => .ptr o off | none => .any
  | .mp i => match os[i]? with | some o => .mp o | none => .any
  | .sl kn es d (some (j, g)) => match lookG j gn with
    | some (g', _) => bif Nat.beq g g' && Nat.blt j mk then .sl kn es d (some (bk ks m j, ng + j)) else .sl kn es d none
    | _ => .sl kn es d none
  | .fn f a c => .fn f (bakL os ks m ng mk gn a) (bakL os ks m ng mk gn c)
  | .agg cs => .agg (bakL os ks m ng mk gn cs)
  | .tup vs => .tup (bakL os ks m ng mk gn vs)
  | .sl kn es d none => .sl kn es d none
  | .any => .any
  | .sc kn v => .sc kn v
  | .ep kn es d j => .ep kn es d j
  | .rsl kn i n len => match os[i]? with | some o => .rsl kn o n len | none => .any
  | .rp kn i n e j => match os[i]? with | some o => .rp kn o n e j | none => .any
  | .rw es d => .rw es d
def bakL (os ks : List Nat) (m ng mk : Nat) (gn : List (Nat × Nat × TypeId)) : List AV → List AV
  | [] => []
  | x :: xs => bak os ks m ng mk gn x :: bakL os ks m ng mk gn xs
end
def bakO (os ks : List Nat) (m ng mk : Nat) (h' : Hp) : List Nat → Nat → List (Nat × List AV)
  | [], _ => []
  | o :: r, i => match lookO i h'.ob with
    | some cs => (o, bakL os ks m ng mk h'.gn cs) :: bakO os ks m ng mk h' r (i + 1)
    | none => bakO os ks m ng mk h' r (i + 1)
def bakG (ks : List Nat) (m ng : Nat) (gn : List (Nat × Nat × TypeId)) : Nat → List (Nat × Nat × TypeId)
  | 0 => []
  | j + 1 => match lookG j gn with
    | some (_, e) => (bk ks m j, ng + j, e) :: bakG ks m ng gn j
    | none => bakG ks m ng gn j
/-- the whole, behind what was done to the part -/
def Hp.bak (h : Hp) (os ks : List Nat) (mk : Nat) (h' : Hp) : Hp :=
  ⟨bakO os ks h.nv h.ng mk h' os 0 ++ h.ob, h.nx, bakG ks h.nv h.ng h'.gn mk ++ h.gn, h.nv + (mk - ks.length), h.ng + mk, h.ep⟩

section
variable {P : Program} {E E' : Env} {h h' : Hp} {w w0 w' : World} {G : Nat → Prop} {os ks : List Nat} {g0 mk ep : Nat}

theorem ndp {l : List Nat} (hl : l.Nodup) {i j o : Nat} (h1 : l[i]? = some o) (h2 : l[j]? = some o) : i = j :=
  (List.getElem?_inj (List.getElem?_eq_some_iff.1 h1).1 hl).1 (h1.trans h2.symm)
theorem gdp {l : List Nat} {i o : Nat} (hi : l[i]? = some o) : l.getD i 0 = o := by rw [List.getD_eq_getElem?_getD, hi]; rfl
theorem bk_lt {m j : Nat} (hj : j < ks.length) : bk ks m j = ks.getD j 0 := by
  unfold bk
  rw [show Nat.blt j ks.length = true from Nat.ble_eq_true_of_le hj]
  rfl
theorem bk_ge {m j : Nat} (hj : ks.length ≤ j) : bk ks m j = m + (j - ks.length) := by
  unfold bk
  have : Nat.blt j ks.length = false := by
    cases hb : Nat.blt j ks.length
    · rfl
    · have := Nat.le_of_ble_eq_true hb; omega
  rw [this]; rfl
theorem bk_inj {m : Nat} (hk : ks.Nodup) (hkl : ∀ k ∈ ks, k < m) {i j : Nat} (e : bk ks m i = bk ks m j) : i = j := by
  have hm : ∀ {i}, i < ks.length → ks.getD i 0 < m := fun {i} hi => by
    rw [List.getD_eq_getElem?_getD, List.getElem?_eq_getElem hi]; exact hkl _ (List.getElem_mem hi)
  rcases Nat.lt_or_ge i ks.length with hi | hi <;> rcases Nat.lt_or_ge j ks.length with hj | hj
  · rw [bk_lt hi, bk_lt hj] at e
    refine ndp hk (List.getElem?_eq_getElem hi) ?_
    rw [List.getElem?_eq_getElem hj]
    rw [List.getD_eq_getElem?_getD, List.getD_eq_getElem?_getD, List.getElem?_eq_getElem hi, List.getElem?_eq_getElem hj] at e
    simpa using e.symm
  · rw [bk_lt hi, bk_ge hj] at e; have := hm hi; omega
  · rw [bk_ge hi, bk_lt hj] at e; have := hm hj; omega
  · rw [bk_ge hi, bk_ge hj] at e; omega
theorem lookG_bakG {m ng : Nat} {gn : List (Nat × Nat × TypeId)} (hk : ks.Nodup) (hkl : ∀ k ∈ ks, k < m) : ∀ (n : Nat), (∀ j, j < n → (lookG j gn).isSome = true) → (∀ j, j < n → lookG (bk ks m j) (bakG ks m ng gn n) = (lookG j gn).map fun p => (ng + j, p.2)) ∧ ∀ k, (∀ j, j < n → bk ks m j ≠ k) → lookG k (bakG ks m ng gn n) = none
  | 0, _ => ⟨fun j hj => by omega, fun _ _ => rfl⟩
  | n + 1, hs => by
    obtain ⟨h1, h2⟩ := lookG_bakG hk hkl n fun j hj => hs j (by omega)
    obtain ⟨p, hp⟩ := Option.isSome_iff_exists.1 (hs n (by omega))
    obtain ⟨g, e⟩ := p
    refine ⟨fun j hj => ?_, fun k hne => ?_⟩
    · simp only [bakG, hp]
      rw [lookG_cons]
      by_cases ej : n = j
      · subst ej; rw [if_pos rfl, hp]; rfl
      · rw [if_neg (fun e' => ej (bk_inj hk hkl e')), h1 j (by omega)]
    · simp only [bakG, hp]
      rw [lookG_cons, if_neg (hne n (by omega)), h2 k fun j hj => hne j (by omega)]
theorem lookG_append (k : Nat) : ∀ (a b : List (Nat × Nat × TypeId)), lookG k (a ++ b) = match lookG k a with | some x => some x | none => lookG k b
  | [], b => rfl
  | (i, g) :: a, b => by
    rw [List.cons_append, lookG_cons, lookG_cons]
    split
    · rfl
    · exact lookG_append k a b
theorem lookO_append (k : Nat) : ∀ (a b : List (Nat × List AV)), lookO k (a ++ b) = match lookO k a with | some x => some x | none => lookO k b
  | [], b => rfl
  | (i, g) :: a, b => by
    rw [List.cons_append, lookO_cons, lookO_cons]
    split
    · rfl
    · exact lookO_append k a b
theorem cnt_append (k : Nat) : ∀ (a b : List (Nat × List AV)), cnt k (a ++ b) = cnt k a + cnt k b
  | [], b => by simp [cnt_nil]
  | (i, g) :: a, b => by
    rw [List.cons_append, cnt_cons, cnt_cons, cnt_append k a b]
    split <;> omega
theorem cnt_pos : ∀ {k : Nat} {a : List (Nat × List AV)} {x : List AV}, lookO k a = some x → 0 < cnt k a
  | k, [], _, h => by cases h
  | k, (i, g) :: a, x, h => by
    rw [lookO_cons] at h
    rw [cnt_cons]
    split
    · omega
    · rename_i e; rw [if_neg e] at h; exact cnt_pos h
theorem lookO_bakO {m ng : Nat} (os0 : List Nat) : ∀ (l : List Nat) (s : Nat), l.Nodup → (∀ i o, l[i]? = some o → (lookO (s + i) h'.ob).isSome = true) →
    (∀ i o, l[i]? = some o → lookO o (bakO os0 ks m ng mk h' l s) = (lookO (s + i) h'.ob).map (bakL os0 ks m ng mk h'.gn)) ∧ ∀ o, o ∉ l → lookO o (bakO os0 ks m ng mk h' l s) = none ∧ cnt o (bakO os0 ks m ng mk h' l s) = 0
  | [], s, _, _ => ⟨fun i o h => by simp at h, fun _ _ => ⟨rfl, rfl⟩⟩
  | p :: r, s, hn, hs => by
    obtain ⟨hpr, hr⟩ := List.nodup_cons.1 hn
    obtain ⟨h1, h2⟩ := lookO_bakO os0 r (s + 1) hr fun i o hi => by
      have := hs (i + 1) o (by simpa using hi)
      rwa [show s + (i + 1) = s + 1 + i by omega] at this
    obtain ⟨cs, hcs⟩ := Option.isSome_iff_exists.1 (hs 0 p rfl)
    rw [Nat.add_zero] at hcs
    refine ⟨fun i o hi => ?_, fun o ho => ?_⟩
    · simp only [bakO, hcs]
      rw [lookO_cons]
      cases i with
      | zero => simp at hi; subst hi; rw [if_pos rfl, Nat.add_zero, hcs]; rfl
      | succ i =>
        have hi' : r[i]? = some o := by simpa using hi
        rw [if_neg (fun e : p = o => hpr (e ▸ List.mem_of_getElem? hi')), h1 i o hi', show s + (i + 1) = s + 1 + i by omega]
    · simp only [bakO, hcs]
      obtain ⟨ho1, ho2⟩ : o ≠ p ∧ o ∉ r := by simpa using ho
      rw [lookO_cons, cnt_cons, if_neg (fun e => ho1 e.symm), if_neg (fun e => ho1 e.symm)]
      exact h2 o ho2

/-- the meaning of the whole -/
def Env.bak (E : Env) (ks : List Nat) (mk ng : Nat) (E' : Env) : Env :=
  { β := E.β, live := E.live, Z := E'.Z
    vc := fun k => if k < E.m then (match ix k ks 0 with | some j => E'.vc j | none => E.vc k) else E'.vc (k - E.m + ks.length)
    gn := fun k => if k < E.m then (match ix k ks 0 with | some j => ng + j | none => E.gn k) else ng + (k - E.m + ks.length)
    ve := fun k => if k < E.m then (match ix k ks 0 with | some j => E'.ve j | none => E.ve k) else E'.ve (k - E.m + ks.length)
    m := E.m + (mk - ks.length), ng := ng + mk }
theorem ix_mem : ∀ {l : List Nat} {i k s : Nat}, l.Nodup → l[i]? = some k → ix k l s = some (s + i)
  | [], _, _, _, _, h => by simp at h
  | p :: r, i, k, s, hn, h => by
    obtain ⟨hpr, hr⟩ := List.nodup_cons.1 hn
    simp only [ix]
    cases i with
    | zero => simp at h; subst h; simp
    | succ i =>
      have hi : r[i]? = some k := by simpa using h
      have hne : p ≠ k := fun e => hpr (e ▸ List.mem_of_getElem? hi)
      have hb : Nat.beq p k = false := by cases hb : Nat.beq p k; rfl; exact absurd (Nat.eq_of_beq_eq_true hb) hne
      rw [hb]
      simp only [cond_false]
      rw [ix_mem hr hi, show s + 1 + i = s + (i + 1) by omega]
theorem ix_none : ∀ {l : List Nat} {k s : Nat}, k ∉ l → ix k l s = none
  | [], _, _, _ => rfl
  | p :: r, k, s, h => by
    obtain ⟨h1, h2⟩ : k ≠ p ∧ k ∉ r := by simpa using h
    have hb : Nat.beq p k = false := by cases hb : Nat.beq p k; rfl; exact absurd (Nat.eq_of_beq_eq_true hb).symm h1
    simp only [ix, hb, cond_false]
    exact ix_none h2
/-- of slice bk j -/
theorem bak_bk (hk : ks.Nodup) (hkl : ∀ k ∈ ks, k < E.m) {ng j : Nat} : (E.bak ks mk ng E').vc (bk ks E.m j) = E'.vc j ∧ (E.bak ks mk ng E').gn (bk ks E.m j) = ng + j ∧ (E.bak ks mk ng E').ve (bk ks E.m j) = E'.ve j := by
  simp only [Env.bak]
  rcases Nat.lt_or_ge j ks.length with hj | hj
  · have hg := List.getElem?_eq_getElem hj
    rw [bk_lt hj, gdp hg, if_pos (hkl _ (List.getElem_mem hj)), if_pos (hkl _ (List.getElem_mem hj)), if_pos (hkl _ (List.getElem_mem hj)), ix_mem hk hg]
    simp
  · rw [bk_ge hj, if_neg (by omega), if_neg (by omega), if_neg (by omega), show E.m + (j - ks.length) - E.m + ks.length = j by omega]
    exact ⟨rfl, rfl, rfl⟩
theorem bak_old {ng k : Nat} (hkm : k < E.m) (hkn : k ∉ ks) : (E.bak ks mk ng E').vc k = E.vc k ∧ (E.bak ks mk ng E').gn k = E.gn k ∧ (E.bak ks mk ng E').ve k = E.ve k := by
  simp only [Env.bak, if_pos hkm, ix_none hkn]
  exact ⟨trivial, trivial, trivial⟩
/-- which slices there are -/
theorem bak_cases {k : Nat} (hkm : k < E.m + (mk - ks.length)) (hq : ks.length ≤ mk) : (k < E.m ∧ k ∉ ks) ∨ ∃ j, j < mk ∧ k = bk ks E.m j := by
  by_cases h1 : k < E.m
  · by_cases h2 : k ∈ ks
    · obtain ⟨j, hj⟩ := List.mem_iff_getElem?.1 h2
      have hjl := (List.getElem?_eq_some_iff.1 hj).1
      exact .inr ⟨j, by omega, by rw [bk_lt hjl, gdp hj]⟩
    · exact .inl ⟨h1, h2⟩
  · exact .inr ⟨k - E.m + ks.length, by omega, by rw [bk_ge (by omega)]; omega⟩

mutual
theorem bak_rel (I' : Inv P w (E.ren os ks g0).mine E' h' w') (hx : Ext (E.ren os ks g0) E') (hk : ks.Nodup) (hkl : ∀ k ∈ ks, k < E.m) (hmk : mk ≤ E'.m) (hq : ks.length ≤ mk) (hol : ∀ o ∈ os, E.live o) (ng : Nat) : ∀ (x : AV) (v : Value), Rel E' x v → Rel (E.bak ks mk ng E') (bak os ks E.m ng mk h'.gn x) v
  | .any, _, _ => trivial
  | .sc _ _, _, H => H
  | .ep _ _ _ _, _, H => H
  | .rw _ _, _, H => H
  | .rsl _ i _ _, v, ⟨hl, ad, cap, g1, g2, g3, g4, g5⟩ => by
    simp only [bak]
    split
    · rename_i o ho
      have hlo := hol o (List.mem_of_getElem? ho)
      have hb := hx.β i ⟨o, ho, hlo⟩
      refine ⟨hlo, ad, cap, g1, g2, g3, g4, fun hn => ?_⟩
      rw [g5 hn, hb]
      simp only [Env.ren, Env.bak, gdp ho]
    · exact trivial
  | .rp _ i _ _ _, v, ⟨hl, hv⟩ => by
    simp only [bak]
    split
    · rename_i o ho
      have hlo := hol o (List.mem_of_getElem? ho)
      have hb := hx.β i ⟨o, ho, hlo⟩
      refine ⟨hlo, ?_⟩
      rw [hv, hb]
      simp only [Env.ren, Env.bak, gdp ho]
    · exact trivial
  | .ptr i off, v, ⟨hl, hv⟩ => by
    simp only [bak]
    split
    · rename_i o ho
      have hlo := hol o (List.mem_of_getElem? ho)
      have hb := hx.β i ⟨o, ho, hlo⟩
      refine ⟨hlo, ?_⟩
      rw [hv, hb]
      simp only [Env.ren, Env.bak, gdp ho]
    · exact trivial
  | .mp i, v, ⟨hl, hv⟩ => by
    simp only [bak]
    split
    · rename_i o ho
      have hlo := hol o (List.mem_of_getElem? ho)
      have hb := hx.β i ⟨o, ho, hlo⟩
      refine ⟨hlo, ?_⟩
      rw [hv, hb]
      simp only [Env.ren, Env.bak, gdp ho]
    · exact trivial
  | .sl kn es d none, v, H => H
  | .sl kn es d (some (j, g)), v, ⟨h1, hj, hg, hc⟩ => by
    simp only [bak]
    have hno : Rel (E.bak ks mk ng E') (.sl kn es d none) v := ⟨h1, trivial⟩
    split
    · rename_i g' e hl
      cases hb : Nat.beq g g' && Nat.blt j mk
      · exact hno
      · simp only [Bool.and_eq_true] at hb
        obtain rfl := Nat.eq_of_beq_eq_true hb.1
        have hjm : j < mk := Nat.le_of_ble_eq_true hb.2
        have hgn := (I'.gn j (by rw [← I'.m]; exact hj)).symm.trans hl
        injection hgn with hgn
        have hg1 : E'.gn j = g := congrArg Prod.fst hgn
        obtain ⟨b1, b2, b3⟩ := bak_bk (E := E) (E' := E') (mk := mk) hk hkl (ng := ng) (j := j)
        refine ⟨h1, ?_, by show ng + j < ng + mk; omega, fun _ => ?_⟩
        · show bk ks E.m j < E.m + (mk - ks.length)
          rcases Nat.lt_or_ge j ks.length with h | h
          · rw [bk_lt h, gdp (List.getElem?_eq_getElem h)]
            have := hkl _ (List.getElem_mem h); omega
          · rw [bk_ge h]; omega
        · rw [b1]; exact hc hg1
    · exact hno
  | .fn f a c, v, ⟨a', c', h1, h2, h3⟩ => ⟨a', c', h1, bak_relL I' hx hk hkl hmk hq hol ng a _ h2, bak_relL I' hx hk hkl hmk hq hol ng c _ h3⟩
  | .agg cs, v, ⟨cs', h1, h2, h3⟩ => ⟨cs', h1, bak_relL I' hx hk hkl hmk hq hol ng cs _ h2, h3⟩
  | .tup vs, v, ⟨vs', h1, h2⟩ => ⟨vs', h1, bak_relL I' hx hk hkl hmk hq hol ng vs _ h2⟩
theorem bak_relL (I' : Inv P w (E.ren os ks g0).mine E' h' w') (hx : Ext (E.ren os ks g0) E') (hk : ks.Nodup) (hkl : ∀ k ∈ ks, k < E.m) (hmk : mk ≤ E'.m) (hq : ks.length ≤ mk) (hol : ∀ o ∈ os, E.live o) (ng : Nat) : ∀ (xs : List AV) (vs : List Value), RelL E' xs vs → RelL (E.bak ks mk ng E') (bakL os ks E.m ng mk h'.gn xs) vs
  | [], _, H => H
  | x :: xs, _, ⟨v, vs', h1, h2, h3⟩ => ⟨v, vs', h1, bak_rel I' hx hk hkl hmk hq hol ng x v h2, bak_relL I' hx hk hkl hmk hq hol ng xs vs' h3⟩
end

theorem Inv.bak (I : Inv P w0 G E h w) (hon : os.Nodup) (hol : ∀ o ∈ os, E.live o) (hk : ks.Nodup) (hkl : ∀ k ∈ ks, k < E.m) (hq : ks.length ≤ mk) (hmk : mk ≤ E'.m)
    (S : Stepd P w (E.ren os ks g0).mine (E.ren os ks g0) (h.ren os ks g0 ep) w E' h' w') :
    Stepd P w0 G E h w (E.bak ks mk h.ng E') (h.bak os ks mk h') w' := by
  have I' := S.inv
  have hx := S.ext
  have hm0 := I.m
  -- what the call may write
  have mine : ∀ b, (E.ren os ks g0).mine b → (∃ o, o ∈ os ∧ E.β o = b) ∨ ∃ k, k ∈ ks ∧ (E.vc k).ownBlock = some b := fun b hb => by
    rcases hb with ⟨i, ⟨o, h1, h2⟩, h3⟩ | ⟨j, hj, hb⟩
    · left
      refine ⟨o, List.mem_of_getElem? h1, ?_⟩
      have : E.β (os.getD i 0) = b := h3
      rwa [gdp h1] at this
    · right
      have hj' : j < ks.length := hj
      have hb' : (E.vc (ks.getD j 0)).ownBlock = some b := hb
      rw [gdp (List.getElem?_eq_getElem hj')] at hb'
      exact ⟨_, List.getElem_mem hj', hb'⟩
  have mineG : ∀ b, (E.ren os ks g0).mine b → w0.heap.size ≤ b ∨ G b := fun b hb => by
    rcases mine b hb with ⟨o, h1, rfl⟩ | ⟨k, h1, h2⟩
    · exact I.own o (hol o h1)
    · obtain ⟨_, _, _, _, _, _, g4⟩ := I.vec k (by rw [← I.m]; exact hkl k h1)
      exact (g4 b h2).1
  have notobj : ∀ o, E.live o → o ∉ os → ¬ (E.ren os ks g0).mine (E.β o) := fun o hl hn hb => by
    rcases mine _ hb with ⟨o', h1, h2⟩ | ⟨k, h1, h2⟩
    · exact hn (I.inj o' o (hol o' h1) hl h2 ▸ h1)
    · obtain ⟨_, _, _, _, _, _, g4⟩ := I.vec k (by rw [← I.m]; exact hkl k h1)
      exact (g4 _ h2).2.1 o hl rfl
  have notvec : ∀ k, k < E.m → k ∉ ks → ∀ b, (E.vc k).ownBlock = some b → ¬ (E.ren os ks g0).mine b := fun k hkm hn b hb hmb => by
    obtain ⟨_, _, _, _, _, _, g4⟩ := I.vec k (by rw [← I.m]; exact hkm)
    rcases mine _ hmb with ⟨o, h1, h2⟩ | ⟨k', h1, h2⟩
    · exact (g4 b hb).2.1 o (hol o h1) h2
    · exact hn (I.vinj k k' b (by rw [← I.m]; exact hkm) (by rw [← I.m]; exact hkl k' h1) hb h2 ▸ h1)
  have same : ∀ b, b < w.heap.size → ¬ (E.ren os ks g0).mine b → w'.heap[b]? = w.heap[b]? := fun b hb hn => I'.kpt.block b hb hn
  have liveE' : ∀ i o, os[i]? = some o → E'.live i ∧ E'.β i = E.β o := fun i o hi => by
    have hl : (E.ren os ks g0).live i := ⟨o, hi, hol o (List.mem_of_getElem? hi)⟩
    refine ⟨hx.live i hl, (hx.β i hl).trans ?_⟩
    show E.β (os.getD i 0) = E.β o
    rw [gdp hi]
  have zold : ∀ b j v, b < w.heap.size → ¬ (E.ren os ks g0).mine b → E'.Z b j = some v → E.Z b j = some v := fun b j v hb hn hz => by
    rcases S.zn b j v hz with h | h | h
    · exact h
    · omega
    · exact absurd h hn
  have hZ : ∀ b j v, E.Z b j = some v → E'.Z b j = some v := hx.Z
  have hmm : E'.m = h'.nv := I'.m
  have hGs : ∀ j, j < mk → (lookG j h'.gn).isSome = true := fun j hj => by rw [I'.gn j (by omega)]; rfl
  have hkl' : ∀ k ∈ ks, k < h.nv := fun k hk' => by rw [← I.m]; exact hkl k hk'
  obtain ⟨bg1, bg2⟩ := lookG_bakG (ng := h.ng) hk hkl' mk hGs
  have hOs : ∀ i o, os[i]? = some o → (lookO (0 + i) h'.ob).isSome = true := fun i o hi => by
    rw [Nat.zero_add]; exact (I'.live i).1 (liveE' i o hi).1
  obtain ⟨bo1, bo2⟩ := lookO_bakO (ks := ks) (m := h.nv) (ng := h.ng) (mk := mk) (h' := h') os os 0 hon hOs
  have hext : Ext E (E.bak ks mk h.ng E') := by
    refine ⟨fun _ h => h, fun _ _ => rfl, hZ, Nat.le_add_right _ _, by rw [I.ng]; exact Nat.le_add_right _ _, fun k hkm => ?_⟩
    by_cases hn : k ∈ ks
    · obtain ⟨j, hj⟩ := List.mem_iff_getElem?.1 hn
      right
      simp only [Env.bak, if_pos hkm, ix_mem hk hj]
      rw [I.ng]; omega
    · obtain ⟨a1, a2, _⟩ := bak_old (mk := mk) (E' := E') (ng := h.ng) hkm hn
      exact .inl ⟨a1, a2⟩
  have hbr : ∀ (xs : List AV) (vs : List Value), RelL E' xs vs → RelL (E.bak ks mk h.ng E') (bakL os ks h.nv h.ng mk h'.gn xs) vs := fun xs vs hr => by
    rw [← I.m]; exact bak_relL I' hx hk hkl hmk hq hol h.ng xs vs hr
  -- a slice of the part lies apart
  have partv : ∀ j, j < mk → ∀ b, (E'.vc j).ownBlock = some b → w.heap.size ≤ b ∨ (E.ren os ks g0).mine b := fun j hj b hb => by
    obtain ⟨_, _, _, _, _, _, g4⟩ := I'.vec j (by omega)
    exact (g4 b hb).1
  refine ⟨hext, ⟨I.kpt.then I'.kpt mineG, by show E.m + (mk - ks.length) = h.nv + (mk - ks.length); rw [I.m], rfl, fun k hkn => ?_, fun k hkn => ?_, fun o => ?_, I.nx, fun o cs hcs => ?_, I.own, I.inj, I'.z, fun o j hlo => ?_, fun k hkn => ?_, fun k k' b hkn hkn' hb hb' => ?_⟩, fun o hlo => ?_, fun b j v hz => ?_⟩
  · -- stamps
    show lookG k (bakG ks h.nv h.ng h'.gn mk ++ h.gn) = _
    rw [lookG_append]
    rcases bak_cases (E := E) (mk := mk) (by rw [I.m]; exact hkn) hq with ⟨h1, h2⟩ | ⟨j, h1, rfl⟩
    · obtain ⟨a1, a2, a3⟩ := bak_old (mk := mk) (E' := E') (ng := h.ng) h1 h2
      rw [a2, a3, bg2 k fun j hj e => ?_]
      · exact I.gn k (by rw [← I.m]; exact h1)
      · rcases Nat.lt_or_ge j ks.length with hjl | hjl
        · rw [bk_lt hjl, gdp (List.getElem?_eq_getElem hjl)] at e
          exact h2 (e ▸ List.getElem_mem hjl)
        · rw [bk_ge hjl] at e; omega
    · obtain ⟨a1, a2, a3⟩ := bak_bk (E := E) (E' := E') (mk := mk) hk hkl (ng := h.ng) (j := j)
      have := bg1 j h1
      rw [a2, a3]
      rw [← I.m] at this ⊢
      rw [this, I'.gn j (by omega)]
      rfl
  · rcases bak_cases (E := E) (mk := mk) (by rw [I.m]; exact hkn) hq with ⟨h1, h2⟩ | ⟨j, h1, rfl⟩
    · obtain ⟨a1, a2, a3⟩ := bak_old (mk := mk) (E' := E') (ng := h.ng) h1 h2
      rw [a2]
      have := I.gnlt k (by rw [← I.m]; exact h1)
      show E.gn k < h.ng + mk
      omega
    · obtain ⟨a1, a2, a3⟩ := bak_bk (E := E) (E' := E') (mk := mk) hk hkl (ng := h.ng) (j := j)
      rw [a2]
      show h.ng + j < h.ng + mk
      omega
  · -- which objects
    show E.live o ↔ (lookO o (bakO os ks h.nv h.ng mk h' os 0 ++ h.ob)).isSome = true
    rw [lookO_append]
    by_cases ho : o ∈ os
    · obtain ⟨i, hi⟩ := List.mem_iff_getElem?.1 ho
      rw [bo1 i o hi]
      obtain ⟨cs, hcs⟩ := Option.isSome_iff_exists.1 (hOs i o hi)
      rw [hcs]
      simp [hol o ho]
    · rw [(bo2 o ho).1]
      exact I.live o
  · have hcs' : lookO o (bakO os ks h.nv h.ng mk h' os 0 ++ h.ob) = some cs := hcs
    rw [lookO_append] at hcs'
    by_cases ho : o ∈ os
    · obtain ⟨i, hi⟩ := List.mem_iff_getElem?.1 ho
      rw [bo1 i o hi, Nat.zero_add] at hcs'
      cases hc : lookO i h'.ob with
      | none =>
        have := hOs i o hi
        rw [Nat.zero_add, hc] at this; cases this
      | some cs0 =>
        simp only [hc, Option.map_some, Option.some.injEq] at hcs'
        subst hcs'
        obtain ⟨vs, t, g1, g2, g3⟩ := I'.ob i cs0 hc
        refine ⟨vs, t, ?_, hbr _ _ g2, g3⟩
        show w'.heap[E.β o]? = _
        rw [← (liveE' i o hi).2]; exact g1
    · rw [(bo2 o ho).1] at hcs'
      simp only at hcs'
      obtain ⟨vs, t, g1, g2, g3⟩ := I.ob o cs hcs'
      have hlo : E.live o := (I.live o).2 (by rw [hcs']; rfl)
      exact ⟨vs, t, (same _ (I.live_lt hlo) (notobj o hlo ho)).trans g1, RelL.mono hext _ _ g2, g3⟩
  · show E'.Z (E.β o) j = none
    by_cases ho : o ∈ os
    · obtain ⟨i, hi⟩ := List.mem_iff_getElem?.1 ho
      rw [← (liveE' i o hi).2]
      exact I'.zob i j (liveE' i o hi).1
    · cases hz : E'.Z (E.β o) j with
      | none => rfl
      | some v =>
        have := zold _ _ _ (I.live_lt hlo) (notobj o hlo ho) hz
        rw [I.zob o j hlo] at this; cases this
  · -- slices
    rcases bak_cases (E := E) (mk := mk) (by rw [I.m]; exact hkn) hq with ⟨h1, h2⟩ | ⟨j, h1, rfl⟩
    · obtain ⟨a1, a2, a3⟩ := bak_old (mk := mk) (E' := E') (ng := h.ng) h1 h2
      rw [a1, a3]
      obtain ⟨sz, n, xs, g1, g2, g3, g4⟩ := I.vec k (by rw [← I.m]; exact h1)
      refine ⟨sz, n, xs, g1, owns_same g2 fun b hb => same b (owns_lt g2 hb) (notvec k h1 h2 b hb), g3, fun b hb => ⟨(g4 b hb).1, (g4 b hb).2.1, fun j => ?_⟩⟩
      show E'.Z b j = xs[j]?
      rw [← (g4 b hb).2.2 j]
      cases hz : E.Z b j with
      | some v => exact hZ b j v hz
      | none =>
        cases hz' : E'.Z b j with
        | none => rfl
        | some v =>
          have := zold _ _ _ (owns_lt g2 hb) (notvec k h1 h2 b hb) hz'
          rw [hz] at this; cases this
    · obtain ⟨a1, a2, a3⟩ := bak_bk (E := E) (E' := E') (mk := mk) hk hkl (ng := h.ng) (j := j)
      rw [a1, a3]
      obtain ⟨sz, n, xs, g1, g2, g3, g4⟩ := I'.vec j (by omega)
      refine ⟨sz, n, xs, g1, g2, g3, fun b hb => ⟨?_, fun o hlo e => ?_, (g4 b hb).2.2⟩⟩
      · rcases (g4 b hb).1 with h | h
        · exact .inl (Nat.le_trans I.kpt.size h)
        · exact mineG b h
      · have e' : E.β o = b := e
        by_cases ho : o ∈ os
        · obtain ⟨i, hi⟩ := List.mem_iff_getElem?.1 ho
          exact (g4 b hb).2.1 i (liveE' i o hi).1 ((liveE' i o hi).2.trans e')
        · rcases (g4 b hb).1 with h | h
          · have := I.live_lt hlo; omega
          · exact notobj o hlo ho (e' ▸ h)
  · have old : ∀ k, k < E.m → k ∉ ks → ∀ b, (E.vc k).ownBlock = some b → ∀ j, j < mk → (E'.vc j).ownBlock ≠ some b := fun k h1 h2 b hb j hj hbj => by
      obtain ⟨_, _, _, _, g2, _⟩ := I.vec k (by rw [← I.m]; exact h1)
      rcases partv j hj b hbj with h | h
      · have := owns_lt g2 hb; omega
      · exact notvec k h1 h2 b hb h
    rcases bak_cases (E := E) (mk := mk) (by rw [I.m]; exact hkn) hq with ⟨h1, h2⟩ | ⟨j, h1, rfl⟩ <;> rcases bak_cases (E := E) (mk := mk) (by rw [I.m]; exact hkn') hq with ⟨h1', h2'⟩ | ⟨j', h1', rfl⟩
    · rw [(bak_old (mk := mk) (E' := E') (ng := h.ng) h1 h2).1] at hb
      rw [(bak_old (mk := mk) (E' := E') (ng := h.ng) h1' h2').1] at hb'
      exact I.vinj k k' b (by rw [← I.m]; exact h1) (by rw [← I.m]; exact h1') hb hb'
    · rw [(bak_old (mk := mk) (E' := E') (ng := h.ng) h1 h2).1] at hb
      rw [(bak_bk (E := E) (E' := E') (mk := mk) hk hkl (ng := h.ng) (j := j')).1] at hb'
      exact absurd hb' (old k h1 h2 b hb j' h1')
    · rw [(bak_bk (E := E) (E' := E') (mk := mk) hk hkl (ng := h.ng) (j := j)).1] at hb
      rw [(bak_old (mk := mk) (E' := E') (ng := h.ng) h1' h2').1] at hb'
      exact absurd hb (old k' h1' h2' b hb' j h1)
    · rw [(bak_bk (E := E) (E' := E') (mk := mk) hk hkl (ng := h.ng) (j := j)).1] at hb
      rw [(bak_bk (E := E) (E' := E') (mk := mk) hk hkl (ng := h.ng) (j := j')).1] at hb'
      rw [I'.vinj j j' b (by omega) (by omega) hb hb']
  · have hv : ver o (h.bak os ks mk h') = h.ep + (cnt o (bakO os ks h.nv h.ng mk h' os 0) + cnt o h.ob) := by
      show h.ep + cnt o (bakO os ks h.nv h.ng mk h' os 0 ++ h.ob) = _
      rw [cnt_append]
    unfold ver at hv ⊢
    rw [hv]
    refine ⟨by omega, fun e => ?_⟩
    by_cases ho : o ∈ os
    · obtain ⟨i, hi⟩ := List.mem_iff_getElem?.1 ho
      have := bo1 i o hi
      obtain ⟨cs, hcs⟩ := Option.isSome_iff_exists.1 (hOs i o hi)
      rw [hcs] at this
      have := cnt_pos this
      omega
    · exact same _ (I.live_lt hlo) (notobj o hlo ho)
  · rcases S.zn b j v hz with h | h | h
    · exact .inl h
    · exact .inr (.inl (Nat.le_trans I.kpt.size h))
    · exact .inr (mineG b h)
end
end
end Go.Proofs.YtcambhbmobepjaaGreat
