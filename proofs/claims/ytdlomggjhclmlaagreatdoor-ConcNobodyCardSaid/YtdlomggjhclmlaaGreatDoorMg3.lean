/- Mg3: texts of this claim, one behind the other: Ev5 Ev6. No condition. -/
import Derived.Test.YtdlomggjhclmlaaGreatDoorEv4
namespace Go.Proofs.YtdlomggjhclmlaaGreatDoor
set_option linter.unusedSimpArgs false
set_option linter.unusedVariables false
open Go.RowKit
set_option maxRecDepth 10000
noncomputable section

/-- blocks that were not written are as they were -/
def Unch (E : Env) (h h' : Hp) (w w' : World) : Prop := ∀ o, E.live o → ver o h ≤ ver o h' ∧ (ver o h' = ver o h → w'.heap[E.β o]? = w.heap[E.β o]?)
/-- one step -/
structure Stepd (P : Program) (w0 : World) (G : Nat → Prop) (E : Env) (h : Hp) (w : World) (E' : Env) (h' : Hp) (w' : World) : Prop where
  ext : Ext E E'
  inv : Inv P w0 G E' h' w'
  un : Unch E h h' w w'
  zn : ∀ b j v, E'.Z b j = some v → E.Z b j = some v ∨ w0.heap.size ≤ b ∨ G b
theorem Unch.refl (E : Env) (h : Hp) (w : World) : Unch E h h w w := fun _ _ => ⟨Nat.le_refl _, fun _ => rfl⟩
theorem Unch.trans {E E1 : Env} {h h1 h2 : Hp} {w w1 w2 : World} (a : Unch E h h1 w w1) (hx : Ext E E1) (b : Unch E1 h1 h2 w1 w2) : Unch E h h2 w w2 := fun o ho => by
  obtain ⟨a1, a2⟩ := a o ho
  obtain ⟨b1, b2⟩ := b o (hx.live o ho)
  rw [hx.β o ho] at b2
  exact ⟨Nat.le_trans a1 b1, fun e => (b2 (by omega)).trans (a2 (by omega))⟩
theorem Stepd.trans {P : Program} {w0 : World} {G : Nat → Prop} {E E1 E2 : Env} {h h1 h2 : Hp} {w w1 w2 : World} (a : Stepd P w0 G E h w E1 h1 w1) (b : Stepd P w0 G E1 h1 w1 E2 h2 w2) : Stepd P w0 G E h w E2 h2 w2 :=
  ⟨a.ext.trans b.ext, b.inv, a.un.trans a.ext b.un, fun p j v hz => by
    rcases b.zn p j v hz with h | h
    · exact a.zn p j v h
    · exact .inr h⟩
theorem Stepd.refl {P : Program} {w0 : World} {G : Nat → Prop} {E : Env} {h : Hp} {w : World} (I : Inv P w0 G E h w) : Stepd P w0 G E h w E h w := ⟨Ext.refl E, I, Unch.refl E h w, fun _ _ _ hz => .inl hz⟩
theorem Kpt.then {w0 w w' : World} {G S : Nat → Prop} (a : Kpt w0 w G) (b : Kpt w w' S) (hS : ∀ k, S k → w0.heap.size ≤ k ∨ G k) : Kpt w0 w' G :=
  ⟨b.os.trans a.os, b.tape.trans a.tape, b.output.trans a.output, Nat.le_trans a.size b.size, fun k hk hn => (b.block k (Nat.lt_of_lt_of_le hk a.size) (fun hs => by
    rcases hS k hs with h | h
    · omega
    · exact hn h)).trans (a.block k hk hn)⟩
theorem alloc_old {w : World} {k : Nat} (x : Obj) (hk : k < w.heap.size) : (w.alloc x).heap[k]? = w.heap[k]? := by
  show (w.heap.push x)[k]? = _
  rw [Array.getElem?_push, if_neg (by omega)]
theorem owns_same {w w' : World} {e sz n : Nat} {v : Value} {xs : List Value} (h : ownsR w 0 e sz v n xs) (hb : ∀ b, v.ownBlock = some b → w'.heap[b]? = w.heap[b]?) : ownsR w' 0 e sz v n xs := by
  refine ⟨h.1, ?_⟩
  rcases h.2 with h2 | ⟨g, cap, cur, rfl, h0, ⟨fr, hg, hf⟩, r⟩
  · exact .inl h2
  · exact .inr ⟨g, cap, cur, rfl, h0, ⟨fr, (hb g rfl).trans hg, hf⟩, r⟩
theorem owns_lt {w : World} {e sz n b : Nat} {v : Value} {xs : List Value} (h : ownsR w 0 e sz v n xs) (hb : v.ownBlock = some b) : b < w.heap.size := by
  rcases h.2 with ⟨rfl, _⟩ | ⟨g, cap, cur, rfl, h0, ⟨fr, hg, hf⟩, r⟩
  · cases hb
  · cases hb; exact (Array.getElem?_eq_some_iff.1 hg).1
theorem cell_lt {w : World} {b j : Nat} {v : Value} (h : w.cell? ⟨b, j, none⟩ = some v) : b < w.heap.size := World.block_lt_of_cell? w ⟨b, j, none⟩ h
theorem cell_same {w w' : World} {b j : Nat} (h : w'.heap[b]? = w.heap[b]?) : w'.cell? ⟨b, j, none⟩ = w.cell? ⟨b, j, none⟩ := World.cell?_of_block h

section
variable {P : Program} {E : Env} {F : Tm} {h : Hp} {w w0 : World} {G : Nat → Prop} {a : Act}

theorem Inv.live_lt (I : Inv P w0 G E h w) {o : Nat} (ho : E.live o) : E.β o < w.heap.size := by
  obtain ⟨cs, hcs⟩ := Option.isSome_iff_exists.1 ((I.live o).1 ho)
  obtain ⟨vs, t, hb, _⟩ := I.ob o cs hcs
  exact (Array.getElem?_eq_some_iff.1 hb).1
theorem Inv.z_fresh (I : Inv P w0 G E h w) {b : Nat} (hb : w.heap.size ≤ b) (j : Nat) : E.Z b j = none := by
  cases hz : E.Z b j with
  | none => rfl
  | some v => have := cell_lt (I.z b j v hz); omega
theorem lookO_cons {o k : Nat} {cs : List AV} {l : List (Nat × List AV)} : lookO o ((k, cs) :: l) = if k = o then some cs else lookO o l := by
  simp only [lookO_con]
  by_cases e : k = o
  · subst e; simp
  · have : Nat.beq k o = false := by cases hb : Nat.beq k o; rfl; exact absurd (Nat.eq_of_beq_eq_true hb) e
    simp [this, e]
theorem lookG_cons {o k : Nat} {g : Nat × TypeId} {l : List (Nat × Nat × TypeId)} : lookG o ((k, g) :: l) = if k = o then some g else lookG o l := by
  simp only [lookG_con]
  by_cases e : k = o
  · subst e; simp
  · have : Nat.beq k o = false := by cases hb : Nat.beq k o; rfl; exact absurd (Nat.eq_of_beq_eq_true hb) e
    simp [this, e]
theorem cnt_cons {o k : Nat} {cs : List AV} {l : List (Nat × List AV)} : cnt o ((k, cs) :: l) = if k = o then cnt o l + 1 else cnt o l := by
  simp only [cnt_con]
  by_cases e : k = o
  · subst e; simp
  · have : Nat.beq k o = false := by cases hb : Nat.beq k o; rfl; exact absurd (Nat.eq_of_beq_eq_true hb) e
    simp [this, e]

/-- a block is written -/
theorem Inv.put (I : Inv P w0 G E h w) {o : Nat} {cs cs' : List AV} (ho : lookO o h.ob = some cs) {w' : World} (hk : Kpt w w' (fun k => k = E.β o)) {vs' : List Value} {t : Obj} (hb : w'.heap[E.β o]? = some t)
    (hr : RelL E cs' vs') (h1 : ObOk t vs') : Stepd P w0 G E h w E { h with ob := (o, cs') :: h.ob } w' := by
  have hlo : E.live o := (I.live o).2 (by rw [ho]; rfl)
  have hother : ∀ k, k < w.heap.size → k ≠ E.β o → w'.heap[k]? = w.heap[k]? := fun k hk1 hne => hk.block k hk1 hne
  refine ⟨Ext.refl E, ⟨I.kpt.then hk (by rintro k rfl; exact I.own o hlo), I.m, I.ng, I.gn, I.gnlt, fun p => ?_, I.nx, fun p cp hp => ?_, I.own, I.inj, fun b j v hz => ?_, I.zob, fun k hkn => ?_, I.vinj, I.laid⟩, fun p hp => ?_, fun _ _ _ hz => .inl hz⟩
  · rw [lookO_cons]
    split
    · rename_i e; subst e; simp [hlo]
    · exact I.live p
  · rw [lookO_cons] at hp
    split at hp
    · rename_i e; subst e; cases hp; exact ⟨vs', t, hb, hr, h1⟩
    · rename_i e
      obtain ⟨vs, t', g1, g2, g3⟩ := I.ob p cp hp
      have hlp : E.live p := (I.live p).2 (by rw [hp]; rfl)
      exact ⟨vs, t', (hother _ (I.live_lt hlp) (fun e' => e (I.inj _ _ hlo hlp e'.symm))).trans g1, g2, g3⟩
  · have hne : b ≠ E.β o := fun e => by rw [e, I.zob o j hlo] at hz; cases hz
    have hc := I.z b j v hz
    rw [cell_same (hother b (cell_lt hc) hne)]; exact hc
  · obtain ⟨sz, n, xs, g1, g2, g3, g4⟩ := I.vec k hkn
    exact ⟨sz, n, xs, g1, owns_same g2 fun b hb' => hother b (owns_lt g2 hb') fun e => (g4 b hb').2.1 o hlo e.symm, g3, g4⟩
  · simp only [ver, cnt_cons]
    split
    · exact ⟨by omega, fun e => by omega⟩
    · rename_i e
      exact ⟨Nat.le_refl _, fun _ => hother _ (I.live_lt hp) fun e' => e (I.inj _ _ hlo hp e'.symm)⟩
theorem toK {α : Type} (f : D → α) {x : α} (kn : Bool) {d e : D} (h1 : x = f d) (h2 : x = f e) : x = f (bif kn then d else e) := by cases kn <;> assumption
theorem confA_ok {s : Sh} {x : AV} {d : D} {v : Value} (hc : confA s x = some d) (hr : Rel E x v) : LF E.Z s v d := by
  unfold confA at hc
  split at hc
  · rename_i k _ k' n
    cases hk : decide (k = k')
    · rw [hk] at hc; cases hc
    · rw [hk] at hc
      cases hc
      obtain rfl := of_decide_eq_true hk
      exact hr.1.trans (congrArg _ (toK _ _ rfl rfl))
  · cases hc; exact hr.1.trans (congrArg _ (toK _ _ rfl rfl))
  · cases hc; exact hr.1.trans (congrArg _ (toK _ _ rfl rfl))
  · rename_i es _ es' d' _
    cases hk : Sh.eqsL es es'
    · rw [hk] at hc; cases hc
    · rw [hk] at hc
      cases hc
      obtain rfl := Sh.eqsL_eq _ _ hk
      obtain ⟨g0, ad, cap, g1, g2, g3, g4, g5⟩ := hr.1
      refine ⟨by rw [D.mkK_len]; exact g0, ad, cap, by rw [D.mkK_len]; exact g1, by rw [D.mkK_len]; exact g2, g3, g4, fun hn => ?_⟩
      rw [D.mkK_len] at hn
      obtain ⟨b, o, g6, g7⟩ := g5 hn
      refine ⟨b, o, g6, fun i hi => ?_⟩
      rw [D.mkK_len] at hi
      rw [D.mkK_get]; exact g7 i hi
  · cases hc
    obtain ⟨rfl, _⟩ := hr
    exact ⟨by simp [D.len, D.toL, D.raw], none, 0, rfl, Nat.le_refl _, Nat.zero_le _, fun _ => rfl, fun hn => absurd (by simp [D.len, D.toL, D.raw]) hn⟩
  · cases hc
theorem toL_l {ds : List D} (h : ds.length ≤ maxLen) : (D.l ds).toL = ds := List.take_of_length_le h
/-! Rows that may change. -/
theorem setE_toL (d : D) (i : Nat) (e : D) : (d.setE i e).toL = d.toL.set i e := toL_l (by rw [List.length_set]; exact d.len_le)
theorem setE_len (d : D) (i : Nat) (e : D) : (d.setE i e).len = d.len := by unfold D.len; rw [setE_toL, List.length_set]
theorem setE_get {d : D} {i : Nat} {e : D} (hi : i < d.len) (q : Nat) : (d.setE i e).get q = if q = i then e else d.get q := by
  unfold D.get
  rw [setE_toL, List.getD_eq_getElem?_getD, List.getElem?_set, List.getD_eq_getElem?_getD]
  by_cases h : q = i
  · subst h
    have : q < d.toL.length := hi
    simp [this]
  · rw [if_neg (Ne.symm h), if_neg h]
theorem re_iff {Z : Nat → Nat → Option Value} {cs : Array Value} : ∀ {es : List Sh} {p : Nat} {d : D} {j : Nat}, RE Z es cs p d j ↔ ∀ k s, es[k]? = some s → ∃ v, cs[p + k]? = some v ∧ LF Z s v (d.cell (j + k))
  | [], p, d, j => by simp [RE]
  | s :: es, p, d, j => by
    constructor
    · rintro ⟨h1, h2⟩ k s' hk
      cases k with
      | zero => cases hk; exact h1
      | succ k =>
        have := re_iff.1 h2 k s' (by simpa using hk)
        rwa [show p + 1 + k = p + (k + 1) by omega, show j + 1 + k = j + (k + 1) by omega] at this
    · intro h
      refine ⟨h 0 s rfl, re_iff.2 fun k s' hk => ?_⟩
      have := h (k + 1) s' (by simpa using hk)
      rwa [show p + (k + 1) = p + 1 + k by omega, show j + (k + 1) = j + 1 + k by omega] at this
theorem confL_at : ∀ {ss : List Sh} {xs : List AV} {ds : List D} {vs : List Value}, confL ss xs = some ds → RelL E xs vs → ds.length = ss.length ∧ ∀ k s, ss[k]? = some s → ∃ v, vs[k]? = some v ∧ LF E.Z s v (ds.getD k .n)
  | [], [], ds, _, hc, _ => by simp only [confL] at hc; cases hc; simp
  | s :: ss, x :: xs, ds, vs, hc, hr => by
    simp only [confL] at hc
    split at hc
    · rename_i d ds' h1 h2
      cases hc
      obtain ⟨v, vs', rfl, g1, g2⟩ := hr
      obtain ⟨h3, h4⟩ := confL_at h2 g2
      refine ⟨by simp [h3], fun k s' hk => ?_⟩
      cases k with
      | zero => cases hk; exact ⟨v, rfl, confA_ok h1 g1⟩
      | succ k => simpa using h4 k s' (by simpa using hk)
    · cases hc
  | [], _ :: _, _, _, hc, _ => by simp [confL] at hc
  | _ :: _, [], _, _, hc, _ => by simp [confL] at hc
theorem putC_ge {e : D} {j : Nat} : ∀ {es : List Sh} {ds : List D} {k m : Nat}, j ≤ k → m < es.length → (putC es k j ds e).getD m .n = if m < ds.length then ds.getD m .n else e.cell (k + m)
  | [], _, k, m, _, h => by simp at h
  | s :: es, [], k, m, hj, h => by
    cases m with
    | zero => simp [putC]
    | succ m =>
      simp only [putC, List.getD_cons_succ]
      rw [putC_ge (by omega) (by simpa using h)]
      simp only [List.length_nil, Nat.not_lt_zero, if_false]
      rw [show k + 1 + m = k + (m + 1) by omega]
  | s :: es, x :: r, k, m, hj, h => by
    have e1 : Nat.ble j k = true := Nat.ble_eq_true_of_le hj
    simp only [putC, e1, cond_true]
    cases m with
    | zero => simp
    | succ m =>
      simp only [List.getD_cons_succ]
      rw [putC_ge (by omega) (by simpa using h), show k + 1 + m = k + (m + 1) by omega]
      simp only [List.length_cons, Nat.add_lt_add_iff_right]
theorem putC_get {e : D} {j : Nat} : ∀ {es : List Sh} {ds : List D} {k m : Nat}, k ≤ j → m < es.length → (putC es k j ds e).getD m .n = if j ≤ k + m ∧ k + m < j + ds.length then ds.getD (k + m - j) .n else e.cell (k + m)
  | es, ds, k, m, hk, h => by
    by_cases hkj : k = j
    · subst hkj
      rw [putC_ge (Nat.le_refl _) h]
      by_cases hm : m < ds.length
      · rw [if_pos hm, if_pos (by omega), show k + m - k = m by omega]
      · rw [if_neg hm, if_neg (by omega)]
    · match es, h with
      | s :: es, h =>
        have e1 : Nat.ble j k = false := by
          cases hb : Nat.ble j k
          · rfl
          · have := Nat.le_of_ble_eq_true hb; omega
        have hp : putC (s :: es) k j ds e = e.cell k :: putC es (k + 1) j ds e := by
          cases ds with
          | nil => simp only [putC]
          | cons x r => simp only [putC, e1, cond_false]
        rw [hp]
        cases m with
        | zero => rw [if_neg (by omega)]; simp
        | succ m =>
          simp only [List.getD_cons_succ]
          rw [putC_get (by omega) (by simpa using h), show k + 1 + m = k + (m + 1) by omega]
theorem putAt_get {xs new : List Value} {o : Nat} (h : o + new.length ≤ xs.length) (k : Nat) : (putAt xs o new)[k]? = if o ≤ k ∧ k < o + new.length then new[k - o]? else xs[k]? := by
  unfold putAt
  have hl : (xs.take o).length = o := by rw [List.length_take]; omega
  by_cases h1 : k < o
  · rw [if_neg (by omega), List.append_assoc, List.getElem?_append_left (by omega), List.getElem?_take_of_lt h1]
  · by_cases h2 : k < o + new.length
    · rw [if_pos ⟨by omega, h2⟩, List.append_assoc, List.getElem?_append_right (by omega), hl, List.getElem?_append_left (by omega)]
    · rw [if_neg (by omega), List.getElem?_append_right (by simp only [List.length_append, hl]; omega), List.getElem?_drop]
      congr 1
      simp only [List.length_append, hl]
      omega
theorem storeA_ok {K : Hp → Prop} {t : TypeId} {x y : AV} {vx vy : Value} (H : (storeA P t x y h).holds K) (I : Inv P w0 G E h w) (hx : Rel E x vx) (hy : Rel E y vy) :
    ∃ h' w', K h' ∧ (Instr.storeAt t vx vy).run P w = .ok () w' ∧ Stepd P w0 G E h w E h' w' := by
  unfold storeA at H
  split at H
  · rename_i n o off new hn hc
    obtain ⟨hl, rfl⟩ := hx
    split at H
    · rename_i cs hcs
      cases hb : isVar cs && Nat.beq new.length n && Nat.ble (off + n) cs.length
      · rw [hb] at H; exact H.elim
      · rw [hb] at H
        simp only [Bool.and_eq_true] at hb
        obtain ⟨⟨hvar, hb1⟩, hb2⟩ := hb
        have hb := And.intro hb1 hb2
        obtain rfl := Nat.eq_of_beq_eq_true hb.1
        have hle := Nat.le_of_ble_eq_true hb.2
        obtain ⟨vs, ob, hblk, hrel, hok⟩ := I.ob o cs hcs
        obtain ⟨ty, rfl, h1⟩ := ob_cells hvar hrel hok
        obtain ⟨g1, g2⟩ := rel_cells hy hc
        have l1 : new.length = vy.cells.toList.length := g1.length
        have l2 : cs.length = vs.length := hrel.length
        obtain ⟨w', e1, e2, e3⟩ := run_storeCells (P := P) vy.cells.toList vs off 0 w hblk (by omega) g2
        refine ⟨_, w', H, ?_, I.put hcs e3 (vs' := putAt vs (off + 0) vy.cells.toList) e2 ?_ ?_⟩
        · have hsz : ¬ vy.cells.size ≠ new.length := by simpa using l1.symm
          simp [Instr.storeAt, Instr.sureAddr, storeVar, run_sizeOf hn, e1]
          omega
        · unfold putAt
          rw [l1]
          exact ((hrel.take off).append g1).append (hrel.drop _)
        · refine .inl ⟨_, rfl, ?_⟩
          intro u hu
          unfold putAt at hu
          simp only [List.mem_append] at hu
          rcases hu with (hu | hu) | hu
          · exact h1 u (List.mem_of_mem_take hu)
          · exact g2 u hu
          · exact h1 u (List.mem_of_mem_drop hu)
    · exact H.elim
  · rename_i n kn o m i j new hn hc
    obtain ⟨hl, rfl⟩ := hx
    split at H
    · rename_i es d hrow
      obtain ⟨hlk, cs, ty, hblk, hbd, hre⟩ := row_ob I hrow
      cases hb : Nat.beq m es.length && Nat.beq new.length n && Nat.ble (j + n) es.length && Nat.ble 1 es.length
      · rw [hb] at H; exact H.elim
      rw [hb] at H
      simp only [Bool.and_eq_true] at hb
      obtain ⟨⟨⟨hb1, hb2⟩, hb3⟩, hb4⟩ := hb
      obtain rfl := Nat.eq_of_beq_eq_true hb1
      obtain rfl := Nat.eq_of_beq_eq_true hb2
      have hpos := Nat.le_of_ble_eq_true hb4
      have hle := Nat.le_of_ble_eq_true hb3
      simp only [cond_true] at H
      split at H
      · rename_i ds hconf
        obtain ⟨hc', H⟩ := need_holds H
        have hi := of_decide_eq_true hc'
        obtain ⟨g1, g2⟩ := rel_cells hy hc
        have l1 : new.length = vy.cells.toList.length := g1.length
        obtain ⟨hdl, hat⟩ := confL_at hconf g1
        have hssl : ((es.drop j).take new.length).length = new.length := by rw [List.length_take, List.length_drop]; omega
        have l1' : new.length = vy.cells.size := by simpa using l1
        have hin : i * es.length + j + vy.cells.toList.length ≤ cs.toList.length := by
          obtain ⟨v, hv, _⟩ := re_iff.1 (hre i hi) (es.length - 1) es[es.length - 1] (List.getElem?_eq_getElem (by omega))
          have := (Array.getElem?_eq_some_iff.1 hv).1
          simp only [Array.length_toList]
          omega
        obtain ⟨w', e1, e2, e3⟩ := run_storeCells (P := P) vy.cells.toList cs.toList (i * es.length + j) 0 w (t := ty) (by simpa using hblk) (by simpa using hin) g2
        refine ⟨_, w', H, ?_, I.put hlk e3 (vs' := [.agg (putAt cs.toList (i * es.length + j) vy.cells.toList).toArray]) e2 ?_ ?_⟩
        · have hsz : ¬ vy.cells.size ≠ new.length := by simpa using l1.symm
          simp [Instr.storeAt, Instr.sureAddr, storeVar, run_sizeOf hn, e1]
          omega
        · refine ⟨_, [], rfl, ⟨by rw [setE_len]; exact hbd, _, rfl, fun q hq => ?_⟩, rfl⟩
          rw [setE_len] at hq
          refine re_iff.2 fun k s hk => ?_
          have hkl := (List.getElem?_eq_some_iff.1 hk).1
          obtain ⟨v, hv, hlf⟩ := re_iff.1 (hre q hq) k s hk
          have hput := putAt_get (xs := cs.toList) (new := vy.cells.toList) hin (q * es.length + k)
          simp only [List.getElem?_toArray]
          rw [hput, setE_get hi]
          by_cases hqi : q = i
          · subst hqi
            rw [if_pos rfl]
            simp only [D.cell, Nat.zero_add]
            rw [putC_get (Nat.zero_le _) hkl, Nat.zero_add]
            by_cases hk2 : j ≤ k ∧ k < j + ds.length
            · rw [if_pos hk2, if_pos (by omega)]
              obtain ⟨v', hv', hlf'⟩ := hat (k - j) s (by rw [List.getElem?_take_of_lt (by omega), List.getElem?_drop, show j + (k - j) = k by omega]; exact hk)
              exact ⟨v', by rw [show q * es.length + k - (q * es.length + j) = k - j by omega]; exact hv', hlf'⟩
            · rw [if_neg hk2, if_neg (by omega)]
              exact ⟨v, by simpa using hv, by simpa using hlf⟩
          · rw [if_neg hqi, if_neg ?_]
            · exact ⟨v, by simpa using hv, hlf⟩
            · rintro ⟨h1, h2⟩
              rcases Nat.lt_or_gt_of_ne hqi with h | h
              · have := Nat.mul_le_mul_right es.length (show q + 1 ≤ i by omega)
                rw [Nat.add_mul, Nat.one_mul] at this
                omega
              · have := Nat.mul_le_mul_right es.length (show i + 1 ≤ q by omega)
                rw [Nat.add_mul, Nat.one_mul] at this
                omega
        · exact .inr (.inr ⟨_, _, rfl, rfl⟩)
      · exact H.elim
    · exact H.elim
  · exact H.elim

/-- a new variable -/
theorem newO_ok {cs : List AV} {vs : List Value} (t : Obj) (I : Inv P w0 G E h w) (hr : RelL E cs vs) (h1 : ObOk t vs) :
    ∃ E', Stepd P w0 G E h w E' (newA cs h).2 (w.alloc t) ∧ E'.live h.nx ∧ E'.β h.nx = w.heap.size := by
  have hnl : ¬ E.live h.nx := fun hl => by have := I.nx _ hl; omega
  have hext : Ext E { E with β := fun o => if o = h.nx then w.heap.size else E.β o, live := fun o => E.live o ∨ o = h.nx } :=
    ⟨fun o ho => .inl ho, fun o ho => if_neg fun e : o = h.nx => hnl (e ▸ ho), fun _ _ _ hz => hz, Nat.le_refl _, Nat.le_refl _, fun _ _ => .inl ⟨rfl, rfl⟩, rfl⟩
  have hold : ∀ k, k < w.heap.size → (w.alloc t).heap[k]? = w.heap[k]? := fun k hk => alloc_old _ hk
  have hlt : ∀ o, E.live o → E.β o ≠ w.heap.size := fun o ho => by have := I.live_lt ho; omega
  refine ⟨_, ⟨hext, ⟨I.kpt.then (S := fun _ => False) ⟨rfl, rfl, rfl, by simp, fun k hk _ => hold k hk⟩ (fun _ hf => hf.elim), I.m, I.ng, I.gn, I.gnlt, fun p => ?_, fun p hp => ?_, fun p cp hp => ?_, fun p hp => ?_, fun p q hp hq => ?_, fun b j v hz => ?_, fun p j hp => ?_, fun k hkn => ?_, I.vinj, I.laid.mono hext⟩, fun p hp => ?_, fun _ _ _ hz => .inl hz⟩, .inr rfl, by simp⟩
  · simp only [newA, lookO_cons]
    split
    · rename_i e; subst e; simp
    · rename_i e
      rw [← I.live p]
      exact ⟨fun hh => hh.resolve_right fun e' => e e'.symm, .inl⟩
  · rcases hp with hp | rfl
    · have := I.nx p hp; simp only [newA]; omega
    · simp only [newA]; omega
  · simp only [newA, lookO_cons] at hp
    split at hp
    · rename_i e; subst e; cases hp
      exact ⟨vs, t, by simp only [if_pos]; exact heap_alloc_new w _, RelL.mono hext _ _ hr, h1⟩
    · rename_i e
      obtain ⟨us, t', g1, g2, g3⟩ := I.ob p cp hp
      have hlp : E.live p := (I.live p).2 (by rw [hp]; rfl)
      refine ⟨us, t', ?_, RelL.mono hext _ _ g2, g3⟩
      simp only [if_neg (fun e' : p = h.nx => e (Eq.symm e'))]
      exact (hold _ (I.live_lt hlp)).trans g1
  · rcases hp with hp | rfl
    · simp only [if_neg (fun e : p = h.nx => hnl (e ▸ hp))]; exact I.own p hp
    · simp only [if_pos]; exact .inl I.kpt.size
  · intro e
    by_cases ep : p = h.nx <;> by_cases eq : q = h.nx
    · rw [ep, eq]
    · simp only [ep, eq, if_pos, if_neg, not_false_eq_true] at e
      exact absurd e.symm (hlt q (hq.resolve_right eq))
    · simp only [ep, eq, if_pos, if_neg, not_false_eq_true] at e
      exact absurd e (hlt p (hp.resolve_right ep))
    · simp only [if_neg ep, if_neg eq] at e
      exact I.inj p q (hp.resolve_right ep) (hq.resolve_right eq) e
  · have hc := I.z b j v hz
    rw [cell_same (hold b (cell_lt hc))]; exact hc
  · by_cases ep : p = h.nx
    · simp only [if_pos ep]; exact I.z_fresh (Nat.le_refl _) j
    · simp only [if_neg ep]; exact I.zob p j (hp.resolve_right ep)
  · obtain ⟨sz, n, xs, g1, g2, g3, g4⟩ := I.vec k hkn
    refine ⟨sz, n, xs, g1, owns_same g2 fun b hb' => hold b (owns_lt g2 hb'), g3, fun b hb' => ⟨(g4 b hb').1, fun o ho => ?_, (g4 b hb').2.2⟩⟩
    by_cases ep : o = h.nx
    · simp only [if_pos ep]; have := owns_lt g2 hb'; omega
    · simp only [if_neg ep]; exact (g4 b hb').2.1 o (ho.resolve_right ep)
  · have : p ≠ h.nx := fun e => hnl (e ▸ hp)
    simp only [ver, newA, cnt_cons, if_neg (fun e : h.nx = p => this (Eq.symm e))]
    exact ⟨Nat.le_refl _, fun _ => hold _ (I.live_lt hp)⟩
theorem newA_ok {cs : List AV} {vs : List Value} (t : TypeId) (I : Inv P w0 G E h w) (hr : RelL E cs vs) (h1 : ∀ u ∈ vs, u.oneCell' = true) :
    ∃ E', Stepd P w0 G E h w E' (newA cs h).2 (w.alloc (.cells vs.toArray t)) ∧ Rel E' (newA cs h).1 (.pointer (some ⟨w.heap.size, 0, none⟩)) := by
  obtain ⟨E', g1, g2, g3⟩ := newO_ok (.cells vs.toArray t) I hr (.inl ⟨t, rfl, h1⟩)
  exact ⟨E', g1, g2, by rw [g3]⟩

/-! Maps. -/
theorem newM_ok (I : Inv P w0 G E h w) : ∃ E', Stepd P w0 G E h w E' (newM h).2 (w.alloc (.map #[] 0)) ∧ Rel E' (newM h).1 (.map (some w.heap.size)) := by
  obtain ⟨E', g1, g2, g3⟩ := newO_ok (cs := [.tup [.sc true (.int .i64 0)]]) (vs := [.tuple #[.int .i64 0]]) (.map #[] 0) I ⟨_, _, rfl, ⟨#[.int .i64 0], rfl, _, _, rfl, ⟨rfl, rfl⟩, rfl⟩, rfl⟩ (.inr (.inl (.inl ⟨#[], 0, rfl, rfl⟩)))
  exact ⟨E', g1, g2, by rw [g3]⟩
theorem flat_cons (e : MapEntry) (es : List MapEntry) : flat (e :: es) = .int .i64 e.born :: e.key :: e.val :: flat es := rfl
/-- the first entries of a map, one by one -/
theorem flat_inv {kvs : List AV} {es : List MapEntry} (hr : RelL E kvs (flat es)) : (kvs = [] ∧ es = []) ∨ ∃ b k v r e es', kvs = b :: k :: v :: r ∧ es = e :: es' ∧ Rel E b (.int .i64 e.born) ∧ Rel E k e.key ∧ Rel E v e.val ∧ RelL E r (flat es') := by
  cases es with
  | nil =>
    cases kvs with
    | nil => exact .inl ⟨rfl, rfl⟩
    | cons x xs => obtain ⟨_, _, h, _⟩ := hr; cases h
  | cons e es =>
    rw [flat_cons] at hr
    match kvs, hr with
    | [], hr => have : (_ :: _ : List Value) = [] := hr; cases this
    | [_], ⟨_, _, h, _, h2⟩ => have h2 : _ = ([] : List Value) := h2; subst h2; cases h
    | [_, _], ⟨_, _, h, _, _, _, h3, _, h4⟩ => have h4 : _ = ([] : List Value) := h4; subst h4; subst h3; cases h
    | b :: k :: v :: r, ⟨_, _, h, h1, _, _, h2, h3, _, _, h4, h5, h6⟩ =>
      subst h4; subst h2
      simp only [List.cons.injEq] at h
      obtain ⟨rfl, rfl, rfl, rfl⟩ := h
      exact .inr ⟨b, k, v, r, e, es, rfl, rfl, h1, h3, h5, h6⟩
def nowD : TypeDesc → Bool
  | .int _ => true | .string => true | .bool => true | _ => false
theorem same_now {kt : TypeId} {d : TypeDesc} (hd : P.underlying kt = some d) (hn : nowD d = true) {x y : AV} {vx vy : Value} {r : Bool × Bool} (H : eqAV P 16 kt x y = some r) (hx : Rel E x vx) (hy : Rel E y vy) : Instr.sameNow d vx vy = some r.2 := by
  rw [show (16 : Nat) = 15 + 1 from rfl] at H
  simp only [eqAV] at H
  split at H
  · rename_i kk k1 k a k2 k' b hu
    rw [hd] at hu
    cases hu
    cases hk : decide (k = k')
    · rw [hk] at H; cases H
    · rw [hk] at H
      obtain rfl := of_decide_eq_true hk
      obtain rfl := rel_int hx
      obtain rfl := rel_int hy
      cases H
      simp [Instr.sameNow]
  · rename_i a b hu
    rw [hd] at hu
    cases hu
    obtain ⟨rfl, _⟩ := hx
    obtain ⟨rfl, _⟩ := hy
    cases H
    simp only [Instr.sameNow]
    congr 1
    exact beq_toListBytes _ _
  · rename_i hu
    rw [hd] at hu
    cases hu
    obtain ⟨rfl, _⟩ := hx
    obtain ⟨rfl, _⟩ := hy
    cases H
    simp [Instr.sameNow]
  · rename_i hu
    rw [hd] at hu; cases hu; cases hn
  · rename_i hu
    rw [hd] at hu; cases hu; cases hn
  · cases H
theorem same_not {d : TypeDesc} (hn : nowD d = false) (x y : Value) : Instr.sameNow d x y = none := by
  cases d <;> first | (cases hn; done) | rfl
theorem findE_ok {K : Option (Nat × AV × AV) → Prop} {kt : TypeId} {d : TypeDesc} (hd : P.underlying kt = some d) {k : AV} {vk : Value} (hk : Rel E k vk) : ∀ {es : List MapEntry} {kvs : List AV} {i : Nat}, RelL E kvs (flat es) → (findE P kt k kvs i).holds K →
    ∃ r r', K r ∧ (nowD d = true → Instr.findNow d vk es i = some r') ∧ (∀ w, (Instr.findAsking kt vk es i).run P w = .ok r' w) ∧ match r with
      | none => r' = none
      | some (j, b, av) => ∃ v q e, r' = some (j, v) ∧ Rel E av v ∧ Rel E b (.int .i64 e.born) ∧ j = i + q ∧ es[q]? = some e ∧ e.val = v
  | [], kvs, i, hr, H => by
    rcases flat_inv hr with ⟨rfl, _⟩ | ⟨_, _, _, _, _, _, _, h, _⟩
    · exact ⟨_, none, H, fun _ => rfl, fun w => by simp [Instr.findAsking], rfl⟩
    · cases h
  | e0 :: es0, kvs, i, hr, H => by
    rcases flat_inv hr with ⟨_, h⟩ | ⟨b, k1, v, r, e, es, rfl, h, h1, h2, h3, h4⟩
    · cases h
    cases h
    simp only [findE] at H
    split at H
    · rename_i kn q hq
      have heq := fun w => eqAV_ok (P := P) (E := E) 16 10000 (by omega) kt _ _ _ _ _ hq hk h2 w
      have hnow : nowD d = true → Instr.sameNow d vk e0.key = some q := fun hn => same_now hd hn hq hk h2
      rcases brk_holds H with ⟨hb, H⟩ | ⟨hb, H⟩
      · refine ⟨_, some (i, e0.val), H, fun hn => ?_, fun w => ?_, e0.val, 0, e0, rfl, h3, h1, rfl, rfl, rfl⟩
        · simp [Instr.findNow, hnow hn, hb]
        · simp [Instr.findAsking, Op.equal, Op.maxDepth, heq, hb]
      · obtain ⟨r1, r', g1, g2, g3, g4⟩ := findE_ok hd hk h4 H
        refine ⟨r1, r', g1, fun hn => ?_, fun w => ?_, ?_⟩
        · simp [Instr.findNow, hnow hn, hb, g2 hn]
        · simp [Instr.findAsking, Op.equal, Op.maxDepth, heq, hb, g3]
        · cases r1 with
          | none => exact g4
          | some p =>
            obtain ⟨j, b', av⟩ := p
            obtain ⟨v', q', e', a1, a2, a3, a4, a5, a6⟩ := g4
            exact ⟨v', q' + 1, e', a1, a2, a3, by omega, by simpa using a5, a6⟩
    · exact H.elim
theorem run_findKey {kt : TypeId} {d : TypeDesc} (hd : P.underlying kt = some d) {vk : Value} {es : List MapEntry} {r' : Option (Nat × Value)} (h1 : nowD d = true → Instr.findNow d vk es 0 = some r') (h2 : ∀ w, (Instr.findAsking kt vk es 0).run P w = .ok r' w) (w : World) : (Instr.findKey kt vk es).run P w = .ok r' w := by
  unfold Instr.findKey
  simp only [Sem.run_bind, run_underlying hd, Result.andThen_ok]
  cases hn : nowD d
  · cases es with
    | nil =>
      have := h2 w
      simp [Instr.findAsking] at this
      subst this
      simp [Instr.findNow]
    | cons e es =>
      have : Instr.findNow d vk (e :: es) 0 = none := by simp [Instr.findNow, same_not hn]
      rw [this]; exact h2 w
  · rw [h1 hn]; rfl
theorem run_checkKey_one {kt : TypeId} {d : TypeDesc} (hd : P.underlying kt = some d) (hn : nowD d = true) (w : World) (b : Bool) (n : Nat) (v : Value) : (Instr.checkKey b (n + 1) kt v).run P w = .ok () w := by
  rw [Instr.checkKey]
  simp only [Sem.run_bind, run_underlying hd, Result.andThen_ok]
  cases d <;> first | (cases hn; done) | simp
theorem run_for_ok {f : Nat → Sem Unit} {w : World} : ∀ (l : List Nat), (∀ i ∈ l, (f i).run P w = .ok () w) → (forIn (m := Sem) l PUnit.unit fun i _ => do f i; pure (ForInStep.yield PUnit.unit)).run P w = .ok PUnit.unit w
  | [], _ => rfl
  | i :: l, h => by
    rw [List.forIn_cons]
    simp only [Sem.run_bind, h i (by simp), Result.andThen_ok, Sem.run_pure]
    exact run_for_ok l fun j hj => h j (List.mem_cons_of_mem _ hj)
theorem run_checkKey {kt : TypeId} {k : AV} {vk : Value} (hk : keyOk P kt = true) (hi : isKey P kt k = true) (hr : Rel E k vk) (w : World) (b : Bool) : (Instr.checkKey b 10000 kt vk).run P w = .ok () w := by
  unfold keyOk at hk
  split at hk
  · rename_i q hu; exact run_checkKey_one hu rfl w b 9999 vk
  · rename_i hu; exact run_checkKey_one hu rfl w b 9999 vk
  · rename_i hu; exact run_checkKey_one hu rfl w b 9999 vk
  · rename_i m e hu
    split at hk
    · rename_i q hue
      unfold isKey at hi
      rw [hu] at hi
      split at hi
      · rename_i m' e' cs h1
        cases h1
        split at hi
        · rename_i hsz
          have hlen := Nat.eq_of_beq_eq_true hi
          obtain ⟨vs, rfl, g1, g2⟩ := hr
          rw [show (10000 : Nat) = 9999 + 1 from rfl, Instr.checkKey]
          simp only [Sem.run_bind, run_underlying hu, Result.andThen_ok]
          have := run_for_ok (P := P) (w := w) (f := fun i => do Instr.checkKey b 9999 e (← part e vs (i * (← sizeOf e)))) (List.range' 0 m) (fun i hi => by
            have hi' : i < m := by simpa using hi
            obtain ⟨x, hx⟩ : ∃ x, partA P e cs (i * 1) = some x := by
              unfold partA
              rw [hue, hsz]
              simp only [TypeDesc.isRow, cond_false]
              exact ⟨cs[i], by rw [Nat.mul_one]; exact List.getElem?_eq_getElem (by omega)⟩
            obtain ⟨v, _, hv⟩ := partA_ok hx g1 g2
            simp only [Sem.run_bind, run_sizeOf hsz, Result.andThen_ok, hv]
            exact run_checkKey_one hue rfl w b 9998 v)
          simp [Std.Legacy.Range.forIn_eq_forIn_range', Std.Legacy.Range.size] at this ⊢
          simp [this]
        · cases hi
      · cases hi
      · rename_i hx1 hx2; exact (hx1 m e rfl).elim
    · cases hk
  · cases hk
theorem run_getMap {r : Nat} {es : Array MapEntry} {clock : Nat} (h : w.heap[r]? = some (.map es clock)) : (getObj r).run P w = .ok (.map es clock) w := by simp [getObj, Sem.run, h]
def World.setOb (w : World) (M : Nat) (o : Obj) : World := { w with heap := w.heap.setIfInBounds M o }
theorem run_setMap {r : Nat} {es : Array MapEntry} {clock : Nat} (h : w.heap[r]? = some (.map es clock)) (es' : Array MapEntry) (c' : Nat) : (setObj r (.map es' c')).run P w = .ok () (World.setOb w r (.map es' c')) := by
  simp [setObj, Sem.run, h, World.setOb]
theorem setOb_at {M : Nat} {o' : Obj} (h : w.heap[M]? = some o') (o : Obj) : (World.setOb w M o).heap[M]? = some o := by
  have := (Array.getElem?_eq_some_iff.1 h).1
  simp [World.setOb, this]
theorem kpt_setOb (w : World) (M : Nat) (o : Obj) : Kpt w (World.setOb w M o) (fun k => k = M) :=
  ⟨rfl, rfl, rfl, by simp [World.setOb], fun k _ hn => by simp [World.setOb, Array.getElem?_setIfInBounds_ne (fun e => hn e.symm)]⟩
theorem mapOf_ok (I : Inv P w0 G E h w) {o : Nat} {c : Int} {kvs : List AV} (H : mapOf o h = some (c, kvs)) : ∃ kn es clock, lookO o h.ob = some [.tup (.sc kn (.int .i64 c) :: kvs)] ∧ w.heap[E.β o]? = some (.map es clock) ∧ c = (clock : Nat) ∧ RelL E kvs (flat es.toList) := by
  unfold mapOf at H
  split at H
  · rename_i kn c' l hl
    cases H
    obtain ⟨vs, ob, g1, g2, g3⟩ := I.ob o _ hl
    obtain ⟨v, vs', rfl, ⟨us, rfl, hus⟩, hvs⟩ := g2
    have hvs : vs' = [] := hvs
    subst hvs
    rcases g3 with ⟨t, _, h⟩ | (⟨es, clock, rfl, h⟩ | ⟨m, since, seen, last, rfl, h⟩) | ⟨_, _, _, h⟩
    · have := h (.tuple us) (by simp); cases this
    · simp only [List.cons.injEq, Value.tuple.injEq, and_true] at h
      subst h
      obtain ⟨v, vs', h, h1, h2⟩ := hus
      simp only [List.cons.injEq] at h
      obtain ⟨rfl, rfl⟩ := h
      have hc := rel_int h1
      simp only [Value.int.injEq, true_and] at hc
      exact ⟨kn, es, clock, hl, g1, hc.symm, h2⟩
    · simp only [List.cons.injEq, Value.tuple.injEq, and_true] at h
      subst h
      obtain ⟨v, vs', h, h1, h2⟩ := hus
      simp only [List.cons.injEq] at h
      obtain ⟨rfl, rfl⟩ := h
      cases h1.1
    · cases h
  · cases H
theorem zeroV_ok {t : TypeId} {z : AV} (H : zeroV P t = some z) : ∃ zv, (∀ w, (zeroValue t).run P w = .ok zv w) ∧ ∀ E, Rel E z zv := by
  unfold zeroV at H
  cases hi : P.info? t with
  | none => rw [hi] at H; cases H
  | some i =>
    rw [hi] at H
    cases hz : i.zero with
    | none => simp [hz] at H
    | some zv =>
      simp only [Option.bind_some, hz, Option.map_some, Option.some.injEq] at H
      subst H
      exact ⟨zv, fun w => by simp [zeroValue, typeInfo, hi, hz], fun E => rel_const zv⟩
theorem lookupA_ok {K : AV → Prop} {t : TypeId} {m k : AV} {two : Bool} {vm vk : Value} (H : (lookupA P t m k two h).holds K) (I : Inv P w0 G E h w) (hm : Rel E m vm) (hk : Rel E k vk) :
    ∃ av u, K av ∧ (Instr.lookup t vm vk two).run P w = .ok u w ∧ Rel E av u := by
  unfold lookupA at H
  split at H
  · rename_i kt vt hu
    cases hb : keyOk P kt && isKey P kt k
    · rw [hb] at H; exact H.elim
    rw [hb] at H
    simp only [Bool.and_eq_true, cond_true] at hb H
    obtain ⟨d, hd⟩ : ∃ d, P.underlying kt = some d := by
      cases hq : P.underlying kt with
      | none => have := hb.1; unfold keyOk at this; rw [hq] at this; cases this
      | some d => exact ⟨d, rfl⟩
    have fin : ∀ (av : AV) (u : Value) (q : Bool), Rel E av u → Rel E (bif two then .tup [av, .sc true (.bool q)] else av) (if two = true then .tuple #[u, .bool q] else u) := fun av u q h => by
      cases two
      · exact h
      · exact ⟨_, rfl, _, _, rfl, h, _, _, rfl, ⟨rfl, rfl⟩, rfl⟩
    split at H
    · rename_i o
      obtain ⟨hl, rfl⟩ := hm
      split at H
      · rename_i c kvs hmo
        obtain ⟨kn, es, clock, hlo, g1, _, g2⟩ := mapOf_ok I hmo
        rw [RT.holds_bind] at H
        obtain ⟨r, r', a1, a2, a3, a4⟩ := findE_ok hd hk g2 H
        have hf := run_findKey hd a2 a3 w
        cases r with
        | none =>
          have a4 : r' = none := a4
          subst a4
          simp only at a1
          split at a1
          · rename_i z hz
            obtain ⟨zv, hzr, hzl⟩ := zeroV_ok hz
            refine ⟨_, _, a1, ?_, fin z zv false (hzl E)⟩
            unfold Instr.lookup
            simp only [Sem.run_bind, run_underlying hu, Result.andThen_ok, run_getMap g1, Sem.run_pure, run_checkKey hb.1 hb.2 hk, hf, hzr]
          · exact a1.elim
        | some p =>
          obtain ⟨j, b, av⟩ := p
          obtain ⟨v, q, e, rfl, b2, _⟩ := a4
          refine ⟨_, _, a1, ?_, fin av v true b2⟩
          unfold Instr.lookup
          simp only [Sem.run_bind, run_underlying hu, Result.andThen_ok, run_getMap g1, Sem.run_pure, run_checkKey hb.1 hb.2 hk, hf]
      · exact H.elim
    · obtain ⟨rfl, _⟩ := hm
      split at H
      · rename_i z hz
        obtain ⟨zv, hzr, hzl⟩ := zeroV_ok hz
        refine ⟨_, _, H, ?_, fin z zv false (hzl E)⟩
        have hf : (Instr.findKey kt vk []).run P w = .ok none w := run_findKey hd (fun _ => rfl) (fun w => by simp [Instr.findAsking]) w
        unfold Instr.lookup
        simp only [Sem.run_bind, run_underlying hu, Result.andThen_ok, Sem.run_pure, run_checkKey hb.1 hb.2 hk, hf, hzr]
      · exact H.elim
    · exact H.elim
  · exact H.elim
theorem setE_rel {k v : AV} {vk vv : Value} (hk : Rel E k vk) (hv : Rel E v vv) : ∀ {es : List MapEntry} {kvs : List AV} {q : Nat} {e : MapEntry}, RelL E kvs (flat es) → es[q]? = some e → RelL E (setE k v kvs q) (flat (es.modify q fun e => ⟨vk, vv, e.born⟩))
  | [], _, q, e, _, h => by simp at h
  | e0 :: es0, kvs, q, e', hr, h => by
    rcases flat_inv hr with ⟨_, h⟩ | ⟨b, k1, v1, r, e, es, rfl, h1, h2, h3, h4, h5⟩
    · cases h
    cases h1
    cases q with
    | zero => exact ⟨_, _, rfl, h2, _, _, rfl, hk, _, _, rfl, hv, h5⟩
    | succ q => exact ⟨_, _, rfl, h2, _, _, rfl, h3, _, _, rfl, h4, setE_rel hk hv h5 (by simpa using h)⟩
theorem keyE_rel : ∀ {es : List MapEntry} {kvs : List AV} {q : Nat} {e : MapEntry}, RelL E kvs (flat es) → es[q]? = some e → Rel E (keyE kvs q) e.key
  | [], _, q, e, _, h => by simp at h
  | e0 :: es0, kvs, q, e', hr, h => by
    rcases flat_inv hr with ⟨_, h⟩ | ⟨b, k1, v1, r, e, es, rfl, h1, h2, h3, h4, h5⟩
    · cases h
    cases h1
    cases q with
    | zero => simp at h; subst h; exact h3
    | succ q =>
      have h : es0[q]? = some e' := by simpa using h
      exact keyE_rel (kvs := r) h5 h
theorem delE_rel : ∀ {es : List MapEntry} {kvs : List AV} {q : Nat} {e : MapEntry}, RelL E kvs (flat es) → es[q]? = some e → RelL E (delE kvs q) (flat (es.eraseIdx q))
  | [], _, q, e, _, h => by simp at h
  | e0 :: es0, kvs, q, e', hr, h => by
    rcases flat_inv hr with ⟨_, h⟩ | ⟨b, k1, v1, r, e, es, rfl, h1, h2, h3, h4, h5⟩
    · cases h
    cases h1
    cases q with
    | zero => exact h5
    | succ q => exact ⟨_, _, rfl, h2, _, _, rfl, h3, _, _, rfl, h4, delE_rel h5 (by simpa using h)⟩
theorem bits_zip : ∀ (xs ys : List AV) (vs us : List Value), RelL E xs vs → RelL E ys us → ((List.zip xs ys).foldr bitP (true, Nat.beq xs.length ys.length)).2 = true → xs.length = ys.length → (vs.zip us).all (fun p => Instr.sameBits 9999 p.1 p.2) = true
  | [], ys, vs, us, h1, _, _, _ => by rw [show vs = [] from h1]; simp
  | _ :: _, [], _, us, _, h2, _, h3 => by simp at h3
  | x :: xs, y :: ys, vs, us, ⟨v, vs', e1, h1, h1'⟩, ⟨u, us', e2, h2, h2'⟩, H, hl => by
    subst e1 e2
    have hl' : xs.length = ys.length := by simpa using hl
    simp only [List.zip_cons_cons, List.foldr_cons, List.length_cons] at H
    rw [show Nat.beq (xs.length + 1) (ys.length + 1) = Nat.beq xs.length ys.length from rfl] at H
    generalize hq : (List.zip xs ys).foldr bitP (true, Nat.beq xs.length ys.length) = q at H
    unfold bitP at H
    simp only at H
    split at H
    · rename_i k1 k a k2 k' b
      simp only [Bool.and_eq_true] at H
      obtain ⟨⟨ha, hb⟩, hc⟩ := H
      have hc' := bits_zip xs ys vs' us' h1' h2' (by rw [hq]; exact hc) hl'
      rw [rel_int h1, rel_int h2]
      simp only [List.zip_cons_cons, List.all_cons, Bool.and_eq_true]
      refine ⟨?_, hc'⟩
      obtain rfl := of_decide_eq_true ha
      obtain rfl := eq_of_beq hb
      simp [Instr.sameBits]
    · cases H
theorem bitsA_ok {x y : AV} {v u : Value} (H : (bitsA x y).2 = true) (hx : Rel E x v) (hy : Rel E y u) : Instr.sameBits 10000 v u = true := by
  unfold bitsA at H
  split at H
  · rw [rel_int hx, rel_int hy]
    simp only [Bool.and_eq_true] at H
    obtain rfl := of_decide_eq_true H.1
    obtain rfl := eq_of_beq H.2
    simp [Instr.sameBits]
  · obtain ⟨rfl, _⟩ := hx
    obtain ⟨rfl, _⟩ := hy
    simpa [Instr.sameBits] using H
  · obtain ⟨rfl, _⟩ := hx
    obtain ⟨rfl, _⟩ := hy
    simpa [Instr.sameBits] using H
  · rename_i xs ys
    obtain ⟨vs, rfl, h1, _⟩ := hx
    obtain ⟨us, rfl, h2, _⟩ := hy
    have hl : xs.length = ys.length := by
      by_cases h : xs.length = ys.length
      · exact h
      · exfalso
        have hn : Nat.beq xs.length ys.length = false := by cases hb : Nat.beq xs.length ys.length; rfl; exact absurd (Nat.eq_of_beq_eq_true hb) h
        rw [hn] at H
        have key : ∀ (l : List (AV × AV)), (l.foldr bitP (true, false)).2 = false := by
          intro l
          induction l with
          | nil => rfl
          | cons p l ih =>
            rw [List.foldr_cons]
            generalize List.foldr bitP (true, false) l = q at ih ⊢
            unfold bitP
            split
            · simp [ih]
            · rfl
        rw [key] at H; cases H
    have := bits_zip xs ys _ _ h1 h2 H hl
    have hs : vs.size = us.size := by have := h1.length; have := h2.length; simp at *; omega
    rw [show (10000 : Nat) = 9999 + 1 from rfl, Instr.sameBits]
    simp only [hs, beq_self_eq_true, Bool.true_and]
    exact this
  · cases H
theorem need_pair {α : Type} {Q : α → Prop} {p : Bool × Bool} {why : Nat} {x : RT α} (H : ((fun b : Bool × Bool => need b.1 b.2 why x) p).holds Q) : p.2 = true ∧ x.holds Q := need_holds H
theorem updateA_ok {K : Hp → Prop} {t : TypeId} {m k x : AV} {vm vk vx : Value} (H : (updateA P t m k x h).holds K) (I : Inv P w0 G E h w) (hm : Rel E m vm) (hk : Rel E k vk) (hx : Rel E x vx) :
    ∃ h' w', K h' ∧ (Instr.mapUpdate t vm vk vx).run P w = .ok () w' ∧ Stepd P w0 G E h w E h' w' := by
  unfold updateA at H
  split at H
  · rename_i kt vt o hu
    obtain ⟨hl, rfl⟩ := hm
    cases hb : keyOk P kt && isKey P kt k
    · rw [hb] at H; exact H.elim
    rw [hb] at H
    simp only [Bool.and_eq_true, cond_true] at hb H
    obtain ⟨d, hd⟩ : ∃ d, P.underlying kt = some d := by
      cases hq : P.underlying kt with
      | none => have := hb.1; unfold keyOk at this; rw [hq] at this; cases this
      | some d => exact ⟨d, rfl⟩
    split at H
    · rename_i c kvs hmo
      obtain ⟨kn, es, clock, hlo, g1, rfl, g2⟩ := mapOf_ok I hmo
      rw [RT.holds_bind] at H
      obtain ⟨r, r', a1, a2, a3, a4⟩ := findE_ok hd hk g2 H
      have hf := run_findKey hd a2 a3 w
      cases r with
      | none =>
        have a4 : r' = none := a4
        subst a4
        refine ⟨_, _, a1, ?_, I.put hlo (kpt_setOb w _ (.map (es.push ⟨vk, vx, clock⟩) (clock + 1))) (setOb_at g1 _) (vs' := [.tuple (.int .i64 ((clock + 1 : Nat) : Int) :: flat (es.push ⟨vk, vx, clock⟩).toList).toArray]) ?_ (.inr (.inl (.inl ⟨_, _, rfl, rfl⟩)))⟩
        · unfold Instr.mapUpdate
          simp only [Sem.run_bind, run_underlying hu, Result.andThen_ok, run_getMap g1, run_checkKey hb.1 hb.2 hk, hf]
          exact run_setMap g1 _ _
        · have : flat (es.push ⟨vk, vx, clock⟩).toList = flat es.toList ++ [.int .i64 (clock : Nat), vk, vx] := by simp [flat]
          refine ⟨_, _, rfl, ⟨_, rfl, _, _, rfl, ⟨by simp, rfl⟩, ?_⟩, rfl⟩
          rw [this]
          exact g2.append ⟨_, _, rfl, ⟨rfl, rfl⟩, _, _, rfl, hk, _, _, rfl, hx, rfl⟩
      | some p =>
        obtain ⟨j, b, av⟩ := p
        obtain ⟨v, q, e, rfl, b2, b3, b4, b5, b6⟩ := a4
        obtain rfl : j = q := by omega
        have hke : es[j]? = some e := by simpa using b5
        obtain ⟨hbit, a1⟩ := need_pair a1
        have hsb := bitsA_ok hbit (keyE_rel g2 b5) hk
        refine ⟨_, _, a1, ?_, I.put hlo (kpt_setOb w _ (.map (es.modify j fun e => ⟨vk, vx, e.born⟩) clock)) (setOb_at g1 _) (vs' := [.tuple (.int .i64 (clock : Nat) :: flat (es.modify j fun e => ⟨vk, vx, e.born⟩).toList).toArray]) ?_ (.inr (.inl (.inl ⟨_, _, rfl, rfl⟩)))⟩
        · unfold Instr.mapUpdate
          simp only [Sem.run_bind, run_underlying hu, Result.andThen_ok, run_getMap g1, run_checkKey hb.1 hb.2 hk, hf, hke, Option.map_some, Option.getD_some, Instr.keyThatStays, hsb, if_true, Sem.run_pure]
          exact run_setMap g1 _ _
        · refine ⟨_, _, rfl, ⟨_, rfl, _, _, rfl, ⟨rfl, rfl⟩, ?_⟩, rfl⟩
          rw [Array.toList_modify]
          exact setE_rel hk hx g2 b5
    · exact H.elim
  · exact H.elim
theorem entryA_ok {K : AV × Hp → Prop} {t : TypeId} {m k : AV} {vm vk : Value} (H : (entryA P t m k h).holds K) (I : Inv P w0 G E h w) (hm : Rel E m vm) (hk : Rel E k vk) :
    ∃ av h' u w' E', K (av, h') ∧ (Instr.mapEntry t vm vk).run P w = .ok u w' ∧ Stepd P w0 G E h w E' h' w' ∧ Rel E' av u := by
  unfold entryA at H
  split at H
  · rename_i kt vt o hu
    obtain ⟨hl, rfl⟩ := hm
    cases hb : keyOk P kt && isKey P kt k
    · rw [hb] at H; exact H.elim
    rw [hb] at H
    simp only [Bool.and_eq_true, cond_true] at hb H
    obtain ⟨d, hd⟩ : ∃ d, P.underlying kt = some d := by
      cases hq : P.underlying kt with
      | none => have := hb.1; unfold keyOk at this; rw [hq] at this; cases this
      | some d => exact ⟨d, rfl⟩
    split at H
    · rename_i c kvs hmo
      obtain ⟨kn, es, clock, hlo, g1, rfl, g2⟩ := mapOf_ok I hmo
      rw [RT.holds_bind] at H
      obtain ⟨r, r', a1, a2, a3, a4⟩ := findE_ok hd hk g2 H
      have hf := run_findKey hd a2 a3 w
      cases r with
      | none =>
        have a4 : r' = none := a4
        subst a4
        simp only at a1
        split at a1
        · rename_i z hz
          obtain ⟨zv, hzr, hzl⟩ := zeroV_ok hz
          refine ⟨_, _, .tuple #[zv, goInt clock], _, E, a1, ?_, I.put hlo (kpt_setOb w _ (.map (es.push ⟨vk, zv, clock⟩) (clock + 1))) (setOb_at g1 _) (vs' := [.tuple (.int .i64 ((clock + 1 : Nat) : Int) :: flat (es.push ⟨vk, zv, clock⟩).toList).toArray]) ?_ (.inr (.inl (.inl ⟨_, _, rfl, rfl⟩))), ⟨_, rfl, _, _, rfl, hzl E, _, _, rfl, ⟨rfl, rfl⟩, rfl⟩⟩
          · unfold Instr.mapEntry
            simp only [Sem.run_bind, run_underlying hu, Result.andThen_ok, run_getMap g1, run_checkKey hb.1 hb.2 hk, hf, hzr, run_setMap g1, Sem.run_pure]
          · have : flat (es.push ⟨vk, zv, clock⟩).toList = flat es.toList ++ [.int .i64 (clock : Nat), vk, zv] := by simp [flat]
            refine ⟨_, _, rfl, ⟨_, rfl, _, _, rfl, ⟨by simp, rfl⟩, ?_⟩, rfl⟩
            rw [this]
            exact g2.append ⟨_, _, rfl, ⟨rfl, rfl⟩, _, _, rfl, hk, _, _, rfl, hzl E, rfl⟩
        · exact a1.elim
      | some p =>
        obtain ⟨j, b, av⟩ := p
        obtain ⟨v, q, e, rfl, b2, b3, b4, b5, b6⟩ := a4
        obtain rfl : j = q := by omega
        have hke : es[j]? = some e := by simpa using b5
        obtain ⟨hbit, a1⟩ := need_pair a1
        have hsb := bitsA_ok hbit (keyE_rel g2 b5) hk
        have hmod : (es.modify j fun e => { e with key := vk }) = es.modify j fun e => ⟨vk, v, e.born⟩ := by
          apply Array.ext_getElem?
          intro i
          rw [Array.getElem?_modify, Array.getElem?_modify]
          split
          · rename_i hij; subst hij; rw [hke]; simp [b6]
          · rfl
        refine ⟨_, _, .tuple #[v, goInt e.born], _, E, a1, ?_, I.put hlo (kpt_setOb w _ (.map (es.modify j fun e => ⟨vk, v, e.born⟩) clock)) (setOb_at g1 _) (vs' := [.tuple (.int .i64 (clock : Nat) :: flat (es.modify j fun e => ⟨vk, v, e.born⟩).toList).toArray]) ?_ (.inr (.inl (.inl ⟨_, _, rfl, rfl⟩))), ⟨_, rfl, _, _, rfl, b2, _, _, rfl, b3, rfl⟩⟩
        · unfold Instr.mapEntry
          simp only [Sem.run_bind, run_underlying hu, Result.andThen_ok, run_getMap g1, run_checkKey hb.1 hb.2 hk, hf, hke, Option.map_some, Option.getD_some, Instr.keyThatStays, hsb, if_true, Sem.run_pure, hmod, run_setMap g1]
        · refine ⟨_, _, rfl, ⟨_, rfl, _, _, rfl, ⟨rfl, rfl⟩, ?_⟩, rfl⟩
          rw [Array.toList_modify]
          exact setE_rel hk b2 g2 b5
    · exact H.elim
  · exact H.elim
theorem findB_ok {K : Nat → Prop} {b : Int} : ∀ {es : List MapEntry} {kvs : List AV} {i : Nat}, RelL E kvs (flat es) → (findB b kvs i).holds K → ∃ q e, K (i + q) ∧ es[q]? = some e ∧ es.findIdx? (fun e => (e.born : Int) == b) = some q
  | [], kvs, i, hr, H => by
    rcases flat_inv hr with ⟨rfl, _⟩ | ⟨_, _, _, _, _, _, _, h, _⟩
    · exact H.elim
    · cases h
  | e0 :: es0, kvs, i, hr, H => by
    rcases flat_inv hr with ⟨_, h⟩ | ⟨b0, k1, v, r, e, es, rfl, h, h1, h2, h3, h4⟩
    · cases h
    cases h
    unfold findB at H
    split at H
    · rename_i kc c _ _ _ hc
      simp only [List.cons.injEq] at hc
      obtain ⟨rfl, rfl, rfl, rfl⟩ := hc
      have hcb := rel_int h1
      simp only [Value.int.injEq, true_and] at hcb
      subst hcb
      rcases brk_holds H with ⟨hb, H⟩ | ⟨hb, H⟩
      · exact ⟨0, e0, H, rfl, by simp [List.findIdx?_cons, hb]⟩
      · obtain ⟨q, e, g1, g2, g3⟩ := findB_ok h4 H
        exact ⟨q + 1, e, by rw [← Nat.add_assoc, Nat.add_right_comm]; exact g1, by simpa using g2, by simp [List.findIdx?_cons, hb, g3]⟩
    · exact H.elim
theorem entryPutA_ok {K : Hp → Prop} {t : TypeId} {m s x : AV} {vm vs vx : Value} (H : (entryPutA m s x h).holds K) (I : Inv P w0 G E h w) (hm : Rel E m vm) (hs : Rel E s vs) (hx : Rel E x vx) :
    ∃ h' w', K h' ∧ (Instr.entryStore t vm vs vx).run P w = .ok () w' ∧ Stepd P w0 G E h w E h' w' := by
  unfold entryPutA at H
  split at H
  · rename_i o kn b
    obtain ⟨hl, rfl⟩ := hm
    obtain rfl := rel_int hs
    split at H
    · rename_i c kvs hmo
      obtain ⟨kn, es, clock, hlo, g1, rfl, g2⟩ := mapOf_ok I hmo
      rw [RT.holds_bind] at H
      obtain ⟨q, e, a1, a2, a3⟩ := findB_ok g2 H
      rw [Nat.zero_add] at a1
      have hmod : (es.modify q fun e => { e with val := vx }) = es.modify q fun e' => ⟨e.key, vx, e'.born⟩ := by
        apply Array.ext_getElem?
        intro i
        rw [Array.getElem?_modify, Array.getElem?_modify]
        split
        · rename_i hij
          subst hij
          have : es[q]? = some e := by simpa using a2
          rw [this]; simp
        · rfl
      have hfi : es.findIdx? (fun e => (e.born : Int) == b) = some q := by rw [← a3, ← List.findIdx?_toArray]
      refine ⟨_, _, a1, ?_, I.put hlo (kpt_setOb w _ (.map (es.modify q fun e' => ⟨e.key, vx, e'.born⟩) clock)) (setOb_at g1 _) (vs' := [.tuple (.int .i64 (clock : Nat) :: flat (es.modify q fun e' => ⟨e.key, vx, e'.born⟩).toList).toArray]) ?_ (.inr (.inl (.inl ⟨_, _, rfl, rfl⟩)))⟩
      · unfold Instr.entryStore
        simp only [Sem.run_bind, Result.andThen_ok, run_getMap g1, asInt, asIntOf, Sem.run_pure, hfi, hmod]
        exact run_setMap g1 _ _
      · refine ⟨_, _, rfl, ⟨_, rfl, _, _, rfl, ⟨rfl, rfl⟩, ?_⟩, rfl⟩
        rw [Array.toList_modify]
        exact setE_rel (keyE_rel g2 a2) hx g2 a2
    · exact H.elim
  · exact H.elim
theorem deleteA_ok {K : Hp → Prop} {t ty : TypeId} {m k : AV} {vm vk : Value} (H : (deleteA P t m k h).holds K) (I : Inv P w0 G E h w) (hm : Rel E m vm) (hk : Rel E k vk) (ts : Array TypeId) (hts : ts[0]? = some t) :
    ∃ h' w', K h' ∧ (Builtin.delete_ ts ty #[vm, vk]).run P w = .ok (.tuple #[]) w' ∧ Stepd P w0 G E h w E h' w' := by
  unfold deleteA at H
  split at H
  · rename_i kt vt o hu
    obtain ⟨hl, rfl⟩ := hm
    cases hb : keyOk P kt && isKey P kt k
    · rw [hb] at H; exact H.elim
    rw [hb] at H
    simp only [Bool.and_eq_true, cond_true] at hb H
    obtain ⟨d, hd⟩ : ∃ d, P.underlying kt = some d := by
      cases hq : P.underlying kt with
      | none => have := hb.1; unfold keyOk at this; rw [hq] at this; cases this
      | some d => exact ⟨d, rfl⟩
    split at H
    · rename_i c kvs hmo
      obtain ⟨kn, es, clock, hlo, g1, rfl, g2⟩ := mapOf_ok I hmo
      rw [RT.holds_bind] at H
      obtain ⟨r, r', a1, a2, a3, a4⟩ := findE_ok hd hk g2 H
      have hf := run_findKey hd a2 a3 w
      cases r with
      | none =>
        have a4 : r' = none := a4
        subst a4
        refine ⟨_, _, a1, ?_, I.put hlo (kpt_setOb w _ (.map es clock)) (setOb_at g1 _) (vs' := [.tuple (.int .i64 (clock : Nat) :: flat es.toList).toArray]) ?_ (.inr (.inl (.inl ⟨_, _, rfl, rfl⟩)))⟩
        · unfold Builtin.delete_
          simp only [hts, Sem.run_bind, run_underlying hu, Result.andThen_ok, run_getMap g1, run_checkKey hb.1 hb.2 hk, hf, run_setMap g1, Sem.run_pure]
          simp [run_underlying hu, run_getMap g1, run_checkKey hb.1 hb.2 hk, hf, run_setMap g1]
        · exact ⟨_, _, rfl, ⟨_, rfl, _, _, rfl, ⟨rfl, rfl⟩, g2⟩, rfl⟩
      | some p =>
        obtain ⟨j, b, av⟩ := p
        obtain ⟨v, q, e, rfl, b2, b3, b4, b5, b6⟩ := a4
        obtain rfl : j = q := by omega
        refine ⟨_, _, a1, ?_, I.put hlo (kpt_setOb w _ (.map (es.eraseIdxIfInBounds j) clock)) (setOb_at g1 _) (vs' := [.tuple (.int .i64 (clock : Nat) :: flat (es.eraseIdxIfInBounds j).toList).toArray]) ?_ (.inr (.inl (.inl ⟨_, _, rfl, rfl⟩)))⟩
        · unfold Builtin.delete_
          simp [hts, run_underlying hu, run_getMap g1, run_checkKey hb.1 hb.2 hk, hf, run_setMap g1]
        · refine ⟨_, _, rfl, ⟨_, rfl, _, _, rfl, ⟨rfl, rfl⟩, ?_⟩, rfl⟩
          rw [Array.toList_eraseIdxIfInBounds]
          exact delE_rel g2 b5
    · exact H.elim
  · exact H.elim
end
end
end Go.Proofs.YtdlomggjhclmlaaGreatDoor

namespace Go.Proofs.YtdlomggjhclmlaaGreatDoor
set_option linter.unusedSimpArgs false
set_option linter.unusedVariables false
open Go.RowKit
set_option maxRecDepth 10000
noncomputable section
section
variable {P : Program} {E : Env} {F : Tm} {h : Hp} {w w0 : World} {G : Nat → Prop} {a : Act}

/-- a meaning in which slice k grew -/
def Env.grow (E : Env) (k : Nat) (v' : Value) (g : Nat) (e : TypeId) (m : Nat) (xs : List Value) : Env :=
  { E with Z := fun b j => if v'.ownBlock = some b then xs[j]? else E.Z b j, vc := fun i => if i = k then v' else E.vc i, gn := fun i => if i = k then g else E.gn i, ve := fun i => if i = k then e else E.ve i, m := m, ng := g + 1 }
theorem Inv.vec_setG (I : Inv P w0 G E h w) {k m e sz n' : Nat} {v v' : Value} {xs news : List Value} (hk : k < h.nv ∧ m = h.nv ∧ E.vc k = v ∨ k = h.nv ∧ m = h.nv + 1 ∧ v.ownBlock = none)
    (hold : ∀ b, v.ownBlock = some b → (w0.heap.size ≤ b ∨ G b) ∧ (∀ o, E.live o → E.β o ≠ b) ∧ ∀ j, E.Z b j = xs[j]?) (hsz : sizeT P e = some sz)
    {w' : World} (ho : ownsR w' 0 e sz v' n' (xs ++ news)) (h1 : ∀ u ∈ xs ++ news, u.oneCell' = true) (hK : Kpt w w' (fun b => v.ownBlock = some b ∧ v'.ownBlock = some b))
    (hat : v'.ownBlock = v.ownBlock ∨ ∃ g, v'.ownBlock = some g ∧ w.heap.size ≤ g) :
    Stepd P w0 G E h w (E.grow k v' h.ng e m (xs ++ news)) { h with gn := (k, h.ng, e) :: h.gn, nv := m, ng := h.ng + 1 } w' := by
  have hm : h.nv ≤ m := by rcases hk with ⟨_, rfl, _⟩ | ⟨_, rfl, _⟩ <;> omega
  have hkm : k < m := by rcases hk with ⟨h1, rfl, _⟩ | ⟨rfl, rfl, _⟩ <;> omega
  have hb' : ∀ b, v'.ownBlock = some b → (v.ownBlock = some b) ∨ w.heap.size ≤ b := fun b hb => by
    rcases hat with e | ⟨g, e, hg⟩
    · exact .inl (e ▸ hb)
    · rw [e] at hb; cases hb; exact .inr hg
  have hsame : ∀ b, b < w.heap.size → v'.ownBlock ≠ some b → w'.heap[b]? = w.heap[b]? := fun b hb hne => hK.block b hb fun hs => hne hs.2
  have hother : ∀ i, i < h.nv → i ≠ k → ∀ b, (E.vc i).ownBlock = some b → v'.ownBlock ≠ some b := fun i hi hne b hbi hbv => by
    rcases hb' b hbv with e | hge
    · rcases hk with ⟨hkn, _, rfl⟩ | ⟨_, _, hnone⟩
      · exact hne (I.vinj i k b hi hkn hbi e)
      · rw [hnone] at e; cases e
    · obtain ⟨_, _, _, _, g2, _⟩ := I.vec i hi
      have := owns_lt g2 hbi; omega
  have hlive : ∀ o, E.live o → v'.ownBlock ≠ some (E.β o) := fun o hlo hbv => by
    rcases hb' _ hbv with e | e
    · exact (hold _ e).2.1 o hlo rfl
    · have := I.live_lt hlo; omega
  have hZ : ∀ b j u, E.Z b j = some u → (if v'.ownBlock = some b then (xs ++ news)[j]? else E.Z b j) = some u := fun b j u hz => by
    split
    · rename_i hbv
      rcases hb' b hbv with e | hge
      · rw [(hold b e).2.2 j] at hz
        rw [List.getElem?_append_left (List.getElem?_eq_some_iff.1 hz).1]; exact hz
      · rw [I.z_fresh hge] at hz; cases hz
    · exact hz
  have hext : Ext E (E.grow k v' h.ng e m (xs ++ news)) := by
    refine ⟨fun _ h => h, fun _ _ => rfl, hZ, by rw [I.m]; exact hm, by rw [I.ng]; exact Nat.le_succ _, fun i hi => ?_, rfl⟩
    by_cases e : i = k
    · subst e; right; simp only [Env.grow, if_pos]; rw [I.ng]; exact Nat.le_refl _
    · left; simp only [Env.grow, if_neg e]; exact ⟨trivial, trivial⟩
  refine ⟨hext, ⟨I.kpt.then hK (fun b hb => (hold b hb.1).1), rfl, rfl, fun i hi => ?_, fun i hi => ?_, I.live, I.nx, fun o cs ho' => ?_, I.own, I.inj, fun b j u hz => ?_, fun o j hlo => ?_, fun i hi => ?_, fun i i' b hi hi' hb1 hb2 => ?_, I.laid.mono hext⟩, fun o hlo => ⟨Nat.le_refl _, fun _ => hsame _ (I.live_lt hlo) (hlive o hlo)⟩, fun b j u hz => ?_⟩
  · simp only [lookG_cons, Env.grow]
    by_cases e : i = k
    · subst e; simp
    · rw [if_neg (fun h => e h.symm), if_neg e, if_neg e]
      refine I.gn i ?_
      rcases hk with ⟨_, rfl, _⟩ | ⟨rfl, rfl, _⟩
      · exact hi
      · have : i < h.nv + 1 := hi
        omega
  · simp only [Env.grow]
    by_cases e : i = k
    · rw [if_pos e]; omega
    · rw [if_neg e]
      have : i < h.nv := by
        rcases hk with ⟨_, rfl, _⟩ | ⟨rfl, rfl, _⟩
        · exact hi
        · have : i < h.nv + 1 := hi
          omega
      have := I.gnlt i this; omega
  · obtain ⟨vs, t, g1, g2, g3⟩ := I.ob o cs ho'
    have hlo : E.live o := (I.live o).2 (by rw [ho']; rfl)
    exact ⟨vs, t, (hsame _ (I.live_lt hlo) (hlive o hlo)).trans g1, RelL.mono hext _ _ g2, g3⟩
  · simp only [Env.grow] at hz
    split at hz
    · rename_i hbv
      rcases ho.2 with ⟨rfl, _⟩ | ⟨g, cap, cur, rfl, h0, hg, _, _, hcs, htk⟩
      · cases hbv
      · cases hbv
        have := ho.cells (g := g) rfl j u hz
        rwa [addr_add', Nat.zero_add] at this
    · rename_i hbv
      have hc := I.z b j u hz
      rw [cell_same (hsame b (cell_lt hc) hbv)]; exact hc
  · simp only [Env.grow]
    rw [if_neg (hlive o hlo)]; exact I.zob o j hlo
  · simp only [Env.grow]
    by_cases e : i = k
    · simp only [if_pos e]
      refine ⟨sz, n', xs ++ news, hsz, ho, h1, fun b hb => ⟨?_, fun o hlo e' => hlive o hlo (e' ▸ hb), fun j => by rw [if_pos hb]⟩⟩
      rcases hb' b hb with e | hge
      · exact (hold b e).1
      · exact .inl (Nat.le_trans I.kpt.size hge)
    · simp only [if_neg e]
      have hin : i < h.nv := by
        rcases hk with ⟨_, rfl, _⟩ | ⟨rfl, rfl, _⟩
        · exact hi
        · have : i < h.nv + 1 := hi
          omega
      obtain ⟨s, n, ys, g1, g2, g3, g4⟩ := I.vec i hin
      refine ⟨s, n, ys, g1, owns_same g2 fun b hb => hsame b (owns_lt g2 hb) (hother i hin e b hb), g3, fun b hb => ⟨(g4 b hb).1, (g4 b hb).2.1, fun j => ?_⟩⟩
      rw [if_neg (hother i hin e b hb)]; exact (g4 b hb).2.2 j
  · have lt : ∀ i, i < m → i ≠ k → i < h.nv := fun i hi e => by
      rcases hk with ⟨_, rfl, _⟩ | ⟨rfl, rfl, _⟩
      · exact hi
      · omega
    simp only [Env.grow] at hb1 hb2
    by_cases e : i = k <;> by_cases e' : i' = k
    · rw [e, e']
    · simp only [if_pos e, if_neg e'] at hb1 hb2
      exact absurd hb1 (hother i' (lt i' hi' e') e' b hb2)
    · simp only [if_neg e, if_pos e'] at hb1 hb2
      exact absurd hb2 (hother i (lt i hi e) e b hb1)
    · simp only [if_neg e, if_neg e'] at hb1 hb2
      exact I.vinj i i' b (lt i hi e) (lt i' hi' e') hb1 hb2
  · simp only [Env.grow] at hz
    split at hz
    · rename_i hbv
      rcases hb' b hbv with e | hge
      · exact .inr (hold b e).1
      · exact .inr (.inl (Nat.le_trans I.kpt.size hge))
    · exact .inl hz

/-! Elements. -/
theorem Inv.vec_set (I : Inv P w0 G E h w) {k m e sz n' : Nat} {v v' : Value} {xs news : List Value} (hk : k < h.nv ∧ m = h.nv ∧ E.vc k = v ∨ k = h.nv ∧ m = h.nv + 1 ∧ v.ownBlock = none)
    (hold : ∀ b, v.ownBlock = some b → (w0.heap.size ≤ b ∨ G b) ∧ (∀ o, E.live o → E.β o ≠ b) ∧ ∀ j, E.Z b j = xs[j]?) (hsz : sizeT P e = some sz)
    {w' : World} (ho : ownsR w' 0 e sz v' n' (xs ++ news)) (h1 : ∀ u ∈ xs ++ news, u.oneCell' = true) (hK : Kpt w w' (fun b => v.ownBlock = some b ∧ v'.ownBlock = some b))
    (hat : v'.ownBlock = v.ownBlock ∨ v'.ownBlock = some w.heap.size) :
    Stepd P w0 G E h w (E.grow k v' h.ng e m (xs ++ news)) { h with gn := (k, h.ng, e) :: h.gn, nv := m, ng := h.ng + 1 } w' :=
  I.vec_setG hk hold hsz ho h1 hK (hat.imp_right fun e => ⟨_, e, Nat.le_refl _⟩)
theorem confL_ok {Z : Nat → Nat → Option Value} (hZ : ∀ b j v, E.Z b j = some v → Z b j = some v) {b : Nat} {e : D} : ∀ {ss : List Sh} {xs : List AV} {ds : List D} {vs : List Value} {o j : Nat}, confL ss xs = some ds → RelL E xs vs → (∀ i v, vs[i]? = some v → Z b (o + i) = some v) →
    (∀ i, i < ds.length → e.cell (j + i) = ds.getD i .n) → EL Z ss b o e j
  | [], [], _, _, _, _, _, _, _, _ => trivial
  | s :: ss, x :: xs, ds, vs, o, j, hc, hr, hz, he => by
    simp only [confL] at hc
    split at hc
    · rename_i d ds' h1 h2
      cases hc
      obtain ⟨v, vs', rfl, g1, g2⟩ := hr
      refine ⟨⟨v, hz 0 v rfl, ?_⟩, confL_ok hZ h2 g2 (fun i u hu => ?_) (fun i hi => ?_)⟩
      · have := he 0 (by simp)
        simp only [Nat.add_zero, List.getD_cons_zero] at this
        rw [this]
        exact LF.mono hZ _ _ _ (confA_ok h1 g1)
      · rw [show o + 1 + i = o + (i + 1) by omega]; exact hz (i + 1) u (by simpa using hu)
      · rw [show j + 1 + i = j + (i + 1) by omega]; simpa using he (i + 1) (by simpa using hi)
    · cases hc
  | [], _ :: _, _, _, _, _, hc, _, _, _ => by simp [confL] at hc
  | _ :: _, [], _, _, _, _, hc, _, _, _ => by simp [confL] at hc
theorem elsA_ok {Z : Nat → Nat → Option Value} (hZ : ∀ b j v, E.Z b j = some v → Z b j = some v) {b : Nat} {es : List Sh} : ∀ {m : Nat} {cs : List AV} {ds : List D} {vs : List Value} {o : Nat}, elsA es m cs = some ds → RelL E cs vs → (∀ i v, vs[i]? = some v → Z b (o + i) = some v) →
    ds.length = m ∧ ∀ i, i < m → EL Z es b (o + i * es.length) (ds.getD i .n) 0
  | 0, cs, ds, vs, o, hc, _, _ => by simp only [elsA] at hc; cases hc; exact ⟨rfl, fun i hi => by omega⟩
  | m + 1, cs, ds, vs, o, hc, hr, hz => by
    simp only [elsA] at hc
    split at hc
    · rename_i d ds' h1 h2
      cases hc
      obtain ⟨g1, g2⟩ := elsA_ok hZ (o := o + es.length) h2 (hr.drop es.length) (fun i u hu => by
        rw [List.getElem?_drop] at hu
        rw [show o + es.length + i = o + (es.length + i) by omega]; exact hz _ u hu)
      refine ⟨by simp [g1], fun i hi => ?_⟩
      cases i with
      | zero =>
        simp only [List.getD_cons_zero, Nat.zero_mul, Nat.add_zero]
        refine confL_ok hZ h1 (hr.take es.length) (fun i u hu => ?_) (fun i hi => ?_)
        · rw [List.getElem?_take] at hu
          split at hu
          · exact hz i u hu
          · cases hu
        · simp [D.cell]
      | succ i =>
        have := g2 i (by omega)
        simp only [List.getD_cons_succ]
        rwa [show o + (i + 1) * es.length = o + es.length + i * es.length by rw [Nat.succ_mul]; omega]
    · cases hc
theorem rep_len {α : Type} (z : List α) (m : Nat) : (rep z m).length = m * z.length := by
  induction m with
  | zero => simp [rep]
  | succ m ih => simp only [rep, List.length_append, ih, Nat.succ_mul]; omega
theorem rep_rel {z : List AV} {vs : List Value} (hr : RelL E z vs) : ∀ m, RelL E (rep z m) (rep vs m)
  | 0 => rfl
  | m + 1 => hr.append (rep_rel hr m)
theorem rep_get {α : Type} (z : List α) : ∀ (m i : Nat), i < m * z.length → (rep z m)[i]? = z[i % z.length]?
  | 0, i, h => by simp at h
  | m + 1, i, h => by
    simp only [rep]
    by_cases hi : i < z.length
    · rw [List.getElem?_append_left hi, Nat.mod_eq_of_lt hi]
    · rw [List.getElem?_append_right (by omega), rep_get z m (i - z.length) (by rw [Nat.succ_mul] at h; omega)]
      congr 1
      exact (Nat.mod_eq_sub_mod (by omega)).symm
theorem rep_zero {z : Array Value} {n m : Nat} (hz : z.size = n) (hn : 0 < n) : ((Array.range (m * n)).map (z[· % z.size]!)).toList = rep z.toList m := by
  refine List.ext_getElem? fun i => ?_
  by_cases hi : i < m * n
  · rw [rep_get _ _ _ (by simpa [hz] using hi)]
    have : i % z.size < z.size := Nat.mod_lt _ (by omega)
    simp [hi, this]
  · rw [List.getElem?_eq_none (by simp; omega), List.getElem?_eq_none (by rw [rep_len]; simp [hz]; omega)]
theorem elemA_ok {t e : TypeId} (h : elemA P t = some e) : P.underlying t = some (.slice e) := by
  unfold elemA at h
  split at h
  · cases h; assumption
  · cases h

/-- a row of one's own, told by its cells -/
theorem al_of_own {E : Env} {w : World} {base e n len : Nat} {v : Value} {cs : List AV} {vs : List Value} {tip : Option (Nat × Nat)} (hnn : v ≠ .slice none 0 0) (ho : ownsR w base e n v len vs) (hr : RelL E cs vs) (h1 : ∀ u ∈ vs, u.oneCell' = true)
    (hZ : ∀ b, v.ownBlock = some b → ∀ j, E.Z b j = vs[j]?) (ht : TipOk E tip v) : Rel E (.al n len cs tip) v := by
  obtain ⟨hl, h⟩ := ho
  have hcl : cs.length = len * n := hr.length.trans hl
  rcases h with ⟨rfl, rfl⟩ | ⟨g, cap, cur, rfl, _, _, g1, g2, _⟩
  · exact absurd rfl hnn
  · exact ⟨⟨vs, g, 0, cap, hr, h1, hcl, rfl, g1, g2, fun i u hu => by rw [Nat.zero_add, hZ g rfl i]; exact hu⟩, ht⟩
theorem buildSliceG_ok {K : AV × Hp → Prop} {t : TypeId} {len : Nat} {ps : Array (Nat × Operand)} {vps : Array (Nat × Value)} (hps : vps.toList = ps.toList.map fun p => (p.1, a.eval p.2)) (hT : RelT E F a) (I : Inv P w0 G E h w) (H : (buildSliceG P t len (ps.toList.map fun p => (p.1, opnd F p.2)) h).holds K) :
    ∃ av h' u w' E', K (av, h') ∧ (Instr.buildSlice t len vps).run P w = .ok u w' ∧ Stepd P w0 G E h w E' h' w' ∧ Rel E' av u := by
  unfold buildSliceG at H
  split at H
  · exact H.elim
  rename_i e he
  have hu := elemA_ok he
  split at H
  · rename_i n z hn hz
    cases hb : Nat.ble (len * n) 16777216 && Nat.beq z.length n && Nat.ble 1 n
    · rw [hb] at H; exact H.elim
    rw [hb] at H
    simp only [Bool.and_eq_true, cond_true] at hb H
    obtain ⟨⟨b1, b2⟩, b4⟩ := hb
    have hle := Nat.le_of_ble_eq_true b1
    have hzl := Nat.eq_of_beq_eq_true b2
    have hn1 := Nat.le_of_ble_eq_true b4
    split at H
    · rename_i cs hf
      obtain ⟨zv, hzr, _, g1, g2⟩ := zeroA_ok (E := E) hz
      have hzs : zv.cells.size = n := by have := g1.length; simp at this; omega
      have hrz := rep_zero (z := zv.cells) (m := len) hzs (by omega)
      obtain ⟨r, e1, e2, e3, e4⟩ := fillA_ok (vs := ps.toList.map fun p => (p.1, a.eval p.2)) (cells := (Array.range (len * n)).map (zv.cells[· % zv.cells.size]!)) hf (by rw [hrz]; exact rep_rel g1 len)
        (by
          rw [hrz]
          intro u hu
          obtain ⟨i, hi⟩ := List.mem_iff_getElem?.1 hu
          have hil := (List.getElem?_eq_some_iff.1 hi).1
          rw [rep_len] at hil
          rw [rep_get _ _ _ hil] at hi
          exact g2 u (List.mem_of_getElem? hi)) (by simp) (fun i p q => rel_parts hT i p q)
      have hrs : r.size = len * n := by rw [e4]; simp
      have hl63 : len ≤ maxLen := by
        have : len * 1 ≤ len * n := Nat.mul_le_mul_left _ hn1
        unfold maxLen; omega
      have hv : ownsR (w.alloc (.cells r e)) 0 e n (.slice (some ⟨w.heap.size, 0, none⟩) len len) len ([] ++ r.toList) := by
        refine ⟨by simp [hrs], .inr ⟨w.heap.size, len, r, rfl, Nat.zero_le _, ⟨(0, 0), ?_, .inl rfl⟩, Nat.le_refl _, hl63, hrs, ?_⟩⟩
        · show (w.heap.push _)[w.heap.size]? = _
          simp
        · rw [List.take_of_length_le (by simp [hrs])]; rfl
      have hst := I.vec_set (v := .slice none 0 0) (k := h.nv) (m := h.nv + 1) (.inr ⟨rfl, rfl, rfl⟩) (fun b hb => by cases hb) hn hv (by simpa using e3) ⟨rfl, rfl, rfl, by simp, fun k hk _ => alloc_old _ hk⟩ (.inr rfl)
      refine ⟨_, _, .slice (some ⟨w.heap.size, 0, none⟩) len len, w.alloc (.cells r e), _, H, ?_, hst, al_of_own (by simp) hv (by simpa using RelL.mono hst.ext _ _ e2) (by simpa using e3) (fun b hb j => by simp only [Env.grow]; rw [if_pos hb]) ⟨by simp [Env.grow], by simp [Env.grow], fun _ => by simp [Env.grow]⟩⟩
      · have hne : len * n = 0 ∨ ¬ len * n = 0 := by omega
        unfold Instr.buildSlice
        simp only [Sem.run_bind, run_underlying hu, Result.andThen_ok, run_sizeOf hn]
        rw [if_neg (by omega)]
        rcases hne with h0 | h0
        · have hl0 : len = 0 := by
            rcases Nat.eq_zero_or_pos len with h | h
            · exact h
            · have := Nat.mul_pos h (show 0 < n by omega); omega
          subst hl0
          have hr0 : ∀ (g : Nat → Value), Array.map g (Array.range 0) = #[] := fun g => by simp
          simp only [Nat.zero_mul, hr0] at e1
          simp only [Nat.zero_mul, if_true, Sem.run_bind, Sem.run_pure, Result.andThen_ok, hr0, hps, e1]
          rfl
        · simp only [if_neg h0, Sem.run_bind, hzr, Result.andThen_ok, Sem.run_pure]
          rw [hps, e1]
          rfl
    · exact H.elim
  · exact H.elim
theorem buildSliceA_ok {K : AV × Hp → Prop} {t : TypeId} {len : Nat} {ps : Array (Nat × Operand)} {vps : Array (Nat × Value)} (hps : vps.toList = ps.toList.map fun p => (p.1, a.eval p.2)) (hT : RelT E F a) (I : Inv P w0 G E h w) (H : (buildSliceA P t len (ps.toList.map fun p => (p.1, opnd F p.2)) h).holds K) :
    ∃ av h' u w' E', K (av, h') ∧ (Instr.buildSlice t len vps).run P w = .ok u w' ∧ Stepd P w0 G E h w E' h' w' ∧ Rel E' av u := by
  unfold buildSliceA at H
  split at H
  · exact H.elim
  rename_i e he
  have hu := elemA_ok he
  split at H
  · rename_i n z hn hz
    cases hb : Nat.ble (len * n) 16777216 && Nat.beq z.length n && Nat.beq (shE P e).length n && Nat.ble 1 n && Nat.ble (len * szB (shE P e)) room && Nat.ble 1 len
    · rw [hb] at H; exact buildSliceG_ok hps hT I H
    rw [hb] at H
    simp only [Bool.and_eq_true, cond_true] at hb H
    obtain ⟨⟨⟨⟨⟨b1, b2⟩, b3⟩, b4⟩, b5⟩, _⟩ := hb
    have hle := Nat.le_of_ble_eq_true b1
    have hzl := Nat.eq_of_beq_eq_true b2
    have hes := Nat.eq_of_beq_eq_true b3
    have hn1 := Nat.le_of_ble_eq_true b4
    split at H
    · rename_i cs hf
      split at H
      · rename_i ds hds
        obtain ⟨zv, hzr, _, g1, g2⟩ := zeroA_ok (E := E) hz
        have hzs : zv.cells.size = n := by have := g1.length; simp at this; omega
        have hrz := rep_zero (z := zv.cells) (m := len) hzs (by omega)
        obtain ⟨r, e1, e2, e3, e4⟩ := fillA_ok (vs := ps.toList.map fun p => (p.1, a.eval p.2)) (cells := (Array.range (len * n)).map (zv.cells[· % zv.cells.size]!)) hf (by rw [hrz]; exact rep_rel g1 len)
          (by
            rw [hrz]
            intro u hu
            obtain ⟨i, hi⟩ := List.mem_iff_getElem?.1 hu
            have hil := (List.getElem?_eq_some_iff.1 hi).1
            rw [rep_len] at hil
            rw [rep_get _ _ _ hil] at hi
            exact g2 u (List.mem_of_getElem? hi)) (by simp) (fun i p q => rel_parts hT i p q)
        have hrs : r.size = len * n := by rw [e4]; simp
        have hl63 : len ≤ maxLen := by
          have : len * 1 ≤ len * n := Nat.mul_le_mul_left _ hn1
          unfold maxLen; omega
        have hv : ownsR (w.alloc (.cells r e)) 0 e n (.slice (some ⟨w.heap.size, 0, none⟩) len len) len ([] ++ r.toList) := by
          refine ⟨by simp [hrs], .inr ⟨w.heap.size, len, r, rfl, Nat.zero_le _, ⟨(0, 0), ?_, .inl rfl⟩, Nat.le_refl _, hl63, hrs, ?_⟩⟩
          · show (w.heap.push _)[w.heap.size]? = _
            simp
          · rw [List.take_of_length_le (by simp [hrs])]; rfl
        have hst := I.vec_set (v := .slice none 0 0) (k := h.nv) (m := h.nv + 1) (.inr ⟨rfl, rfl, rfl⟩) (fun b hb => by cases hb) hn hv (by simpa using e3) ⟨rfl, rfl, rfl, by simp, fun k hk _ => alloc_old _ hk⟩ (.inr rfl)
        obtain ⟨d1, d2⟩ := elsA_ok (Z := (E.grow h.nv (.slice (some ⟨w.heap.size, 0, none⟩) len len) h.ng e (h.nv + 1) ([] ++ r.toList)).Z) hst.ext.Z (b := w.heap.size) (o := 0) hds e2
          (fun i v hv => by simp only [Env.grow, Value.ownBlock, if_pos, List.nil_append, Nat.zero_add]; exact hv)
        have htl : (D.l ds).toL = ds := toL_l (by omega)
        refine ⟨_, _, .slice (some ⟨w.heap.size, 0, none⟩) len len, w.alloc (.cells r e), _, H, ?_, hst, ⟨⟨by unfold D.len; rw [htl, d1]; exact Nat.le_of_ble_eq_true b5, some ⟨w.heap.size, 0, none⟩, len, ?_, ?_, hl63, (by intro hh; cases hh), fun _ => ⟨w.heap.size, 0, rfl, fun i hi => ?_⟩⟩, by simp [Env.grow], by simp [Env.grow], fun _ => by simp [Env.grow]⟩⟩
        · have hne : len * n = 0 ∨ ¬ len * n = 0 := by omega
          unfold Instr.buildSlice
          simp only [Sem.run_bind, run_underlying hu, Result.andThen_ok, run_sizeOf hn]
          rw [if_neg (by omega)]
          rcases hne with h0 | h0
          · have hl0 : len = 0 := by
              rcases Nat.eq_zero_or_pos len with h | h
              · exact h
              · have := Nat.mul_pos h (show 0 < n by omega); omega
            subst hl0
            have hr0 : ∀ (g : Nat → Value), Array.map g (Array.range 0) = #[] := fun g => by simp
            simp only [Nat.zero_mul, hr0] at e1
            simp only [Nat.zero_mul, if_true, Sem.run_bind, Sem.run_pure, Result.andThen_ok, hr0, hps, e1]
            rfl
          · simp only [if_neg h0, Sem.run_bind, hzr, Result.andThen_ok, Sem.run_pure]
            rw [hps, e1]
            rfl
        · unfold D.len; rw [htl, d1]
        · unfold D.len; rw [htl, d1]; exact Nat.le_refl _
        · unfold D.len at hi
          rw [htl, d1] at hi
          have := d2 i hi
          unfold D.get
          rw [htl]
          simpa using this
      · exact buildSliceG_ok hps hT I H
    · exact H.elim
  · exact H.elim
end
end
end Go.Proofs.YtdlomggjhclmlaaGreatDoor
