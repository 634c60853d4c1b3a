/- Ev6: the evaluator's slices that grow are right. No condition. -/
import Derived.Test.YtokiedeiamlnlaaGreatEv5
namespace Go.Proofs.YtokiedeiamlnlaaGreat
set_option linter.unusedSimpArgs false
set_option linter.unusedVariables false
open Go.RowKit
set_option maxRecDepth 10000
noncomputable section
section
variable {P : Program} {E : Env} {F : Tm} {h : Hp} {w w0 : World} {G : Nat → Prop} {a : Act}

/-- a meaning in which slice k grew -/
def Env.grow (E : Env) (k : Nat) (v' : Value) (g : Nat) (e : TypeId) (m : Nat) (xs : List Value) : Env :=
  { E with Z := fun b j => if v'.ownBlock = some b then xs[j]? else E.Z b j, vc := fun i => if i = k then v' else E.vc i, gn := fun i => if i = k then g else E.gn i, ve := fun i => if i = k then e else E.ve i, m := m, ng := g + 1 }
theorem Inv.vec_setG (I : Inv P w0 G E h w) {k m e sz n' : Nat} {v v' : Value} {xs news : List Value} (hk : k < h.nv ∧ m = h.nv ∧ E.vc k = v ∨ k = h.nv ∧ m = h.nv + 1 ∧ v.ownBlock = none)
    (hold : ∀ b, v.ownBlock = some b → (w0.heap.size ≤ b ∨ G b) ∧ (∀ o, E.live o → E.β o ≠ b) ∧ ∀ j, E.Z b j = xs[j]?) (hsz : sizeT P e = some sz)
    {w' : World} (ho : ownsR w' 0 e sz v' n' (xs ++ news)) (h1 : ∀ u ∈ xs ++ news, u.oneCell' = true) (hK : Kpt w w' (fun b => v.ownBlock = some b ∧ v'.ownBlock = some b))
    (hat : v'.ownBlock = v.ownBlock ∨ ∃ g, v'.ownBlock = some g ∧ w.heap.size ≤ g) :
    Stepd P w0 G E h w (E.grow k v' h.ng e m (xs ++ news)) { h with gn := (k, h.ng, e) :: h.gn, nv := m, ng := h.ng + 1 } w' := by
  have hm : h.nv ≤ m := by rcases hk with ⟨_, rfl, _⟩ | ⟨_, rfl, _⟩ <;> omega
  have hkm : k < m := by rcases hk with ⟨h1, rfl, _⟩ | ⟨rfl, rfl, _⟩ <;> omega
  have hb' : ∀ b, v'.ownBlock = some b → (v.ownBlock = some b) ∨ w.heap.size ≤ b := fun b hb => by
    rcases hat with e | ⟨g, e, hg⟩
    · exact .inl (e ▸ hb)
    · rw [e] at hb; cases hb; exact .inr hg
  have hsame : ∀ b, b < w.heap.size → v'.ownBlock ≠ some b → w'.heap[b]? = w.heap[b]? := fun b hb hne => hK.block b hb fun hs => hne hs.2
  have hother : ∀ i, i < h.nv → i ≠ k → ∀ b, (E.vc i).ownBlock = some b → v'.ownBlock ≠ some b := fun i hi hne b hbi hbv => by
    rcases hb' b hbv with e | hge
    · rcases hk with ⟨hkn, _, rfl⟩ | ⟨_, _, hnone⟩
      · exact hne (I.vinj i k b hi hkn hbi e)
      · rw [hnone] at e; cases e
    · obtain ⟨_, _, _, _, g2, _⟩ := I.vec i hi
      have := owns_lt g2 hbi; omega
  have hlive : ∀ o, E.live o → v'.ownBlock ≠ some (E.β o) := fun o hlo hbv => by
    rcases hb' _ hbv with e | e
    · exact (hold _ e).2.1 o hlo rfl
    · have := I.live_lt hlo; omega
  have hZ : ∀ b j u, E.Z b j = some u → (if v'.ownBlock = some b then (xs ++ news)[j]? else E.Z b j) = some u := fun b j u hz => by
    split
    · rename_i hbv
      rcases hb' b hbv with e | hge
      · rw [(hold b e).2.2 j] at hz
        rw [List.getElem?_append_left (List.getElem?_eq_some_iff.1 hz).1]; exact hz
      · rw [I.z_fresh hge] at hz; cases hz
    · exact hz
  have hext : Ext E (E.grow k v' h.ng e m (xs ++ news)) := by
    refine ⟨fun _ h => h, fun _ _ => rfl, hZ, by rw [I.m]; exact hm, by rw [I.ng]; exact Nat.le_succ _, fun i hi => ?_⟩
    by_cases e : i = k
    · subst e; right; simp only [Env.grow, if_pos]; rw [I.ng]; exact Nat.le_refl _
    · left; simp only [Env.grow, if_neg e]; exact ⟨trivial, trivial⟩
  refine ⟨hext, ⟨I.kpt.then hK (fun b hb => (hold b hb.1).1), rfl, rfl, fun i hi => ?_, fun i hi => ?_, I.live, I.nx, fun o cs ho' => ?_, I.own, I.inj, fun b j u hz => ?_, fun o j hlo => ?_, fun i hi => ?_, fun i i' b hi hi' hb1 hb2 => ?_, I.laid.mono hext⟩, fun o hlo => ⟨Nat.le_refl _, fun _ => hsame _ (I.live_lt hlo) (hlive o hlo)⟩, fun b j u hz => ?_⟩
  · simp only [lookG_cons, Env.grow]
    by_cases e : i = k
    · subst e; simp
    · rw [if_neg (fun h => e h.symm), if_neg e, if_neg e]
      refine I.gn i ?_
      rcases hk with ⟨_, rfl, _⟩ | ⟨rfl, rfl, _⟩
      · exact hi
      · have : i < h.nv + 1 := hi
        omega
  · simp only [Env.grow]
    by_cases e : i = k
    · rw [if_pos e]; omega
    · rw [if_neg e]
      have : i < h.nv := by
        rcases hk with ⟨_, rfl, _⟩ | ⟨rfl, rfl, _⟩
        · exact hi
        · have : i < h.nv + 1 := hi
          omega
      have := I.gnlt i this; omega
  · obtain ⟨vs, t, g1, g2, g3⟩ := I.ob o cs ho'
    have hlo : E.live o := (I.live o).2 (by rw [ho']; rfl)
    exact ⟨vs, t, (hsame _ (I.live_lt hlo) (hlive o hlo)).trans g1, RelL.mono hext _ _ g2, g3⟩
  · simp only [Env.grow] at hz
    split at hz
    · rename_i hbv
      rcases ho.2 with ⟨rfl, _⟩ | ⟨g, cap, cur, rfl, h0, hg, _, _, hcs, htk⟩
      · cases hbv
      · cases hbv
        have := ho.cells (g := g) rfl j u hz
        rwa [addr_add', Nat.zero_add] at this
    · rename_i hbv
      have hc := I.z b j u hz
      rw [cell_same (hsame b (cell_lt hc) hbv)]; exact hc
  · simp only [Env.grow]
    rw [if_neg (hlive o hlo)]; exact I.zob o j hlo
  · simp only [Env.grow]
    by_cases e : i = k
    · simp only [if_pos e]
      refine ⟨sz, n', xs ++ news, hsz, ho, h1, fun b hb => ⟨?_, fun o hlo e' => hlive o hlo (e' ▸ hb), fun j => by rw [if_pos hb]⟩⟩
      rcases hb' b hb with e | hge
      · exact (hold b e).1
      · exact .inl (Nat.le_trans I.kpt.size hge)
    · simp only [if_neg e]
      have hin : i < h.nv := by
        rcases hk with ⟨_, rfl, _⟩ | ⟨rfl, rfl, _⟩
        · exact hi
        · have : i < h.nv + 1 := hi
          omega
      obtain ⟨s, n, ys, g1, g2, g3, g4⟩ := I.vec i hin
      refine ⟨s, n, ys, g1, owns_same g2 fun b hb => hsame b (owns_lt g2 hb) (hother i hin e b hb), g3, fun b hb => ⟨(g4 b hb).1, (g4 b hb).2.1, fun j => ?_⟩⟩
      rw [if_neg (hother i hin e b hb)]; exact (g4 b hb).2.2 j
  · have lt : ∀ i, i < m → i ≠ k → i < h.nv := fun i hi e => by
      rcases hk with ⟨_, rfl, _⟩ | ⟨rfl, rfl, _⟩
      · exact hi
      · omega
    simp only [Env.grow] at hb1 hb2
    by_cases e : i = k <;> by_cases e' : i' = k
    · rw [e, e']
    · simp only [if_pos e, if_neg e'] at hb1 hb2
      exact absurd hb1 (hother i' (lt i' hi' e') e' b hb2)
    · simp only [if_neg e, if_pos e'] at hb1 hb2
      exact absurd hb2 (hother i (lt i hi e) e b hb1)
    · simp only [if_neg e, if_neg e'] at hb1 hb2
      exact I.vinj i i' b (lt i hi e) (lt i' hi' e') hb1 hb2
  · simp only [Env.grow] at hz
    split at hz
    · rename_i hbv
      rcases hb' b hbv with e | hge
      · exact .inr (hold b e).1
      · exact .inr (.inl (Nat.le_trans I.kpt.size hge))
    · exact .inl hz

/-! Elements. -/
theorem Inv.vec_set (I : Inv P w0 G E h w) {k m e sz n' : Nat} {v v' : Value} {xs news : List Value} (hk : k < h.nv ∧ m = h.nv ∧ E.vc k = v ∨ k = h.nv ∧ m = h.nv + 1 ∧ v.ownBlock = none)
    (hold : ∀ b, v.ownBlock = some b → (w0.heap.size ≤ b ∨ G b) ∧ (∀ o, E.live o → E.β o ≠ b) ∧ ∀ j, E.Z b j = xs[j]?) (hsz : sizeT P e = some sz)
    {w' : World} (ho : ownsR w' 0 e sz v' n' (xs ++ news)) (h1 : ∀ u ∈ xs ++ news, u.oneCell' = true) (hK : Kpt w w' (fun b => v.ownBlock = some b ∧ v'.ownBlock = some b))
    (hat : v'.ownBlock = v.ownBlock ∨ v'.ownBlock = some w.heap.size) :
    Stepd P w0 G E h w (E.grow k v' h.ng e m (xs ++ news)) { h with gn := (k, h.ng, e) :: h.gn, nv := m, ng := h.ng + 1 } w' :=
  I.vec_setG hk hold hsz ho h1 hK (hat.imp_right fun e => ⟨_, e, Nat.le_refl _⟩)
theorem confL_ok {Z : Nat → Nat → Option Value} (hZ : ∀ b j v, E.Z b j = some v → Z b j = some v) {b : Nat} {e : D} : ∀ {ss : List Sh} {xs : List AV} {ds : List D} {vs : List Value} {o j : Nat}, confL ss xs = some ds → RelL E xs vs → (∀ i v, vs[i]? = some v → Z b (o + i) = some v) →
    (∀ i, i < ds.length → e.cell (j + i) = ds.getD i .n) → EL Z ss b o e j
  | [], [], _, _, _, _, _, _, _, _ => trivial
  | s :: ss, x :: xs, ds, vs, o, j, hc, hr, hz, he => by
    simp only [confL] at hc
    split at hc
    · rename_i d ds' h1 h2
      cases hc
      obtain ⟨v, vs', rfl, g1, g2⟩ := hr
      refine ⟨⟨v, hz 0 v rfl, ?_⟩, confL_ok hZ h2 g2 (fun i u hu => ?_) (fun i hi => ?_)⟩
      · have := he 0 (by simp)
        simp only [Nat.add_zero, List.getD_cons_zero] at this
        rw [this]
        exact LF.mono hZ _ _ _ (confA_ok h1 g1)
      · rw [show o + 1 + i = o + (i + 1) by omega]; exact hz (i + 1) u (by simpa using hu)
      · rw [show j + 1 + i = j + (i + 1) by omega]; simpa using he (i + 1) (by simpa using hi)
    · cases hc
  | [], _ :: _, _, _, _, _, hc, _, _, _ => by simp [confL] at hc
  | _ :: _, [], _, _, _, _, hc, _, _, _ => by simp [confL] at hc
theorem elsA_ok {Z : Nat → Nat → Option Value} (hZ : ∀ b j v, E.Z b j = some v → Z b j = some v) {b : Nat} {es : List Sh} : ∀ {m : Nat} {cs : List AV} {ds : List D} {vs : List Value} {o : Nat}, elsA es m cs = some ds → RelL E cs vs → (∀ i v, vs[i]? = some v → Z b (o + i) = some v) →
    ds.length = m ∧ ∀ i, i < m → EL Z es b (o + i * es.length) (ds.getD i .n) 0
  | 0, cs, ds, vs, o, hc, _, _ => by simp only [elsA] at hc; cases hc; exact ⟨rfl, fun i hi => by omega⟩
  | m + 1, cs, ds, vs, o, hc, hr, hz => by
    simp only [elsA] at hc
    split at hc
    · rename_i d ds' h1 h2
      cases hc
      obtain ⟨g1, g2⟩ := elsA_ok hZ (o := o + es.length) h2 (hr.drop es.length) (fun i u hu => by
        rw [List.getElem?_drop] at hu
        rw [show o + es.length + i = o + (es.length + i) by omega]; exact hz _ u hu)
      refine ⟨by simp [g1], fun i hi => ?_⟩
      cases i with
      | zero =>
        simp only [List.getD_cons_zero, Nat.zero_mul, Nat.add_zero]
        refine confL_ok hZ h1 (hr.take es.length) (fun i u hu => ?_) (fun i hi => ?_)
        · rw [List.getElem?_take] at hu
          split at hu
          · exact hz i u hu
          · cases hu
        · simp [D.cell]
      | succ i =>
        have := g2 i (by omega)
        simp only [List.getD_cons_succ]
        rwa [show o + (i + 1) * es.length = o + es.length + i * es.length by rw [Nat.succ_mul]; omega]
    · cases hc
theorem rep_len {α : Type} (z : List α) (m : Nat) : (rep z m).length = m * z.length := by
  induction m with
  | zero => simp [rep]
  | succ m ih => simp only [rep, List.length_append, ih, Nat.succ_mul]; omega
theorem rep_rel {z : List AV} {vs : List Value} (hr : RelL E z vs) : ∀ m, RelL E (rep z m) (rep vs m)
  | 0 => rfl
  | m + 1 => hr.append (rep_rel hr m)
theorem rep_get {α : Type} (z : List α) : ∀ (m i : Nat), i < m * z.length → (rep z m)[i]? = z[i % z.length]?
  | 0, i, h => by simp at h
  | m + 1, i, h => by
    simp only [rep]
    by_cases hi : i < z.length
    · rw [List.getElem?_append_left hi, Nat.mod_eq_of_lt hi]
    · rw [List.getElem?_append_right (by omega), rep_get z m (i - z.length) (by rw [Nat.succ_mul] at h; omega)]
      congr 1
      exact (Nat.mod_eq_sub_mod (by omega)).symm
theorem rep_zero {z : Array Value} {n m : Nat} (hz : z.size = n) (hn : 0 < n) : ((Array.range (m * n)).map (z[· % z.size]!)).toList = rep z.toList m := by
  refine List.ext_getElem? fun i => ?_
  by_cases hi : i < m * n
  · rw [rep_get _ _ _ (by simpa [hz] using hi)]
    have : i % z.size < z.size := Nat.mod_lt _ (by omega)
    simp [hi, this]
  · rw [List.getElem?_eq_none (by simp; omega), List.getElem?_eq_none (by rw [rep_len]; simp [hz]; omega)]
theorem elemA_ok {t e : TypeId} (h : elemA P t = some e) : P.underlying t = some (.slice e) := by
  unfold elemA at h
  split at h
  · cases h; assumption
  · cases h

/-- a row of one's own, told by its cells -/
theorem al_of_own {E : Env} {w : World} {base e n len : Nat} {v : Value} {cs : List AV} {vs : List Value} {tip : Option (Nat × Nat)} (hnn : v ≠ .slice none 0 0) (ho : ownsR w base e n v len vs) (hr : RelL E cs vs) (h1 : ∀ u ∈ vs, u.oneCell' = true)
    (hZ : ∀ b, v.ownBlock = some b → ∀ j, E.Z b j = vs[j]?) (ht : TipOk E tip v) : Rel E (.al n len cs tip) v := by
  obtain ⟨hl, h⟩ := ho
  have hcl : cs.length = len * n := hr.length.trans hl
  rcases h with ⟨rfl, rfl⟩ | ⟨g, cap, cur, rfl, _, _, g1, g2, _⟩
  · exact absurd rfl hnn
  · exact ⟨⟨vs, g, 0, cap, hr, h1, hcl, rfl, g1, g2, fun i u hu => by rw [Nat.zero_add, hZ g rfl i]; exact hu⟩, ht⟩
theorem buildSliceG_ok {K : AV × Hp → Prop} {t : TypeId} {len : Nat} {ps : Array (Nat × Operand)} {vps : Array (Nat × Value)} (hps : vps.toList = ps.toList.map fun p => (p.1, a.eval p.2)) (hT : RelT E F a) (I : Inv P w0 G E h w) (H : (buildSliceG P t len (ps.toList.map fun p => (p.1, opnd F p.2)) h).holds K) :
    ∃ av h' u w' E', K (av, h') ∧ (Instr.buildSlice t len vps).run P w = .ok u w' ∧ Stepd P w0 G E h w E' h' w' ∧ Rel E' av u := by
  unfold buildSliceG at H
  split at H
  · exact H.elim
  rename_i e he
  have hu := elemA_ok he
  split at H
  · rename_i n z hn hz
    cases hb : Nat.ble (len * n) 16777216 && Nat.beq z.length n && Nat.ble 1 n
    · rw [hb] at H; exact H.elim
    rw [hb] at H
    simp only [Bool.and_eq_true, cond_true] at hb H
    obtain ⟨⟨b1, b2⟩, b4⟩ := hb
    have hle := Nat.le_of_ble_eq_true b1
    have hzl := Nat.eq_of_beq_eq_true b2
    have hn1 := Nat.le_of_ble_eq_true b4
    split at H
    · rename_i cs hf
      obtain ⟨zv, hzr, _, g1, g2⟩ := zeroA_ok (E := E) hz
      have hzs : zv.cells.size = n := by have := g1.length; simp at this; omega
      have hrz := rep_zero (z := zv.cells) (m := len) hzs (by omega)
      obtain ⟨r, e1, e2, e3, e4⟩ := fillA_ok (vs := ps.toList.map fun p => (p.1, a.eval p.2)) (cells := (Array.range (len * n)).map (zv.cells[· % zv.cells.size]!)) hf (by rw [hrz]; exact rep_rel g1 len)
        (by
          rw [hrz]
          intro u hu
          obtain ⟨i, hi⟩ := List.mem_iff_getElem?.1 hu
          have hil := (List.getElem?_eq_some_iff.1 hi).1
          rw [rep_len] at hil
          rw [rep_get _ _ _ hil] at hi
          exact g2 u (List.mem_of_getElem? hi)) (by simp) (fun i p q => rel_parts hT i p q)
      have hrs : r.size = len * n := by rw [e4]; simp
      have hl63 : len ≤ maxLen := by
        have : len * 1 ≤ len * n := Nat.mul_le_mul_left _ hn1
        unfold maxLen; omega
      have hv : ownsR (w.alloc (.cells r e)) 0 e n (.slice (some ⟨w.heap.size, 0, none⟩) len len) len ([] ++ r.toList) := by
        refine ⟨by simp [hrs], .inr ⟨w.heap.size, len, r, rfl, Nat.zero_le _, ⟨(0, 0), ?_, .inl rfl⟩, Nat.le_refl _, hl63, hrs, ?_⟩⟩
        · show (w.heap.push _)[w.heap.size]? = _
          simp
        · rw [List.take_of_length_le (by simp [hrs])]; rfl
      have hst := I.vec_set (v := .slice none 0 0) (k := h.nv) (m := h.nv + 1) (.inr ⟨rfl, rfl, rfl⟩) (fun b hb => by cases hb) hn hv (by simpa using e3) ⟨rfl, rfl, rfl, by simp, fun k hk _ => alloc_old _ hk⟩ (.inr rfl)
      refine ⟨_, _, .slice (some ⟨w.heap.size, 0, none⟩) len len, w.alloc (.cells r e), _, H, ?_, hst, al_of_own (by simp) hv (by simpa using RelL.mono hst.ext _ _ e2) (by simpa using e3) (fun b hb j => by simp only [Env.grow]; rw [if_pos hb]) ⟨by simp [Env.grow], by simp [Env.grow], fun _ => by simp [Env.grow]⟩⟩
      · have hne : len * n = 0 ∨ ¬ len * n = 0 := by omega
        unfold Instr.buildSlice
        simp only [Sem.run_bind, run_underlying hu, Result.andThen_ok, run_sizeOf hn]
        rw [if_neg (by omega)]
        rcases hne with h0 | h0
        · have hl0 : len = 0 := by
            rcases Nat.eq_zero_or_pos len with h | h
            · exact h
            · have := Nat.mul_pos h (show 0 < n by omega); omega
          subst hl0
          have hr0 : ∀ (g : Nat → Value), Array.map g (Array.range 0) = #[] := fun g => by simp
          simp only [Nat.zero_mul, hr0] at e1
          simp only [Nat.zero_mul, if_true, Sem.run_bind, Sem.run_pure, Result.andThen_ok, hr0, hps, e1]
          rfl
        · simp only [if_neg h0, Sem.run_bind, hzr, Result.andThen_ok, Sem.run_pure]
          rw [hps, e1]
          rfl
    · exact H.elim
  · exact H.elim
theorem buildSliceA_ok {K : AV × Hp → Prop} {t : TypeId} {len : Nat} {ps : Array (Nat × Operand)} {vps : Array (Nat × Value)} (hps : vps.toList = ps.toList.map fun p => (p.1, a.eval p.2)) (hT : RelT E F a) (I : Inv P w0 G E h w) (H : (buildSliceA P t len (ps.toList.map fun p => (p.1, opnd F p.2)) h).holds K) :
    ∃ av h' u w' E', K (av, h') ∧ (Instr.buildSlice t len vps).run P w = .ok u w' ∧ Stepd P w0 G E h w E' h' w' ∧ Rel E' av u := by
  unfold buildSliceA at H
  split at H
  · exact H.elim
  rename_i e he
  have hu := elemA_ok he
  split at H
  · rename_i n z hn hz
    cases hb : Nat.ble (len * n) 16777216 && Nat.beq z.length n && Nat.beq (shE P e).length n && Nat.ble 1 n && Nat.ble (len * szB (shE P e)) room && Nat.ble 1 len
    · rw [hb] at H; exact buildSliceG_ok hps hT I H
    rw [hb] at H
    simp only [Bool.and_eq_true, cond_true] at hb H
    obtain ⟨⟨⟨⟨⟨b1, b2⟩, b3⟩, b4⟩, b5⟩, _⟩ := hb
    have hle := Nat.le_of_ble_eq_true b1
    have hzl := Nat.eq_of_beq_eq_true b2
    have hes := Nat.eq_of_beq_eq_true b3
    have hn1 := Nat.le_of_ble_eq_true b4
    split at H
    · rename_i cs hf
      split at H
      · rename_i ds hds
        obtain ⟨zv, hzr, _, g1, g2⟩ := zeroA_ok (E := E) hz
        have hzs : zv.cells.size = n := by have := g1.length; simp at this; omega
        have hrz := rep_zero (z := zv.cells) (m := len) hzs (by omega)
        obtain ⟨r, e1, e2, e3, e4⟩ := fillA_ok (vs := ps.toList.map fun p => (p.1, a.eval p.2)) (cells := (Array.range (len * n)).map (zv.cells[· % zv.cells.size]!)) hf (by rw [hrz]; exact rep_rel g1 len)
          (by
            rw [hrz]
            intro u hu
            obtain ⟨i, hi⟩ := List.mem_iff_getElem?.1 hu
            have hil := (List.getElem?_eq_some_iff.1 hi).1
            rw [rep_len] at hil
            rw [rep_get _ _ _ hil] at hi
            exact g2 u (List.mem_of_getElem? hi)) (by simp) (fun i p q => rel_parts hT i p q)
        have hrs : r.size = len * n := by rw [e4]; simp
        have hl63 : len ≤ maxLen := by
          have : len * 1 ≤ len * n := Nat.mul_le_mul_left _ hn1
          unfold maxLen; omega
        have hv : ownsR (w.alloc (.cells r e)) 0 e n (.slice (some ⟨w.heap.size, 0, none⟩) len len) len ([] ++ r.toList) := by
          refine ⟨by simp [hrs], .inr ⟨w.heap.size, len, r, rfl, Nat.zero_le _, ⟨(0, 0), ?_, .inl rfl⟩, Nat.le_refl _, hl63, hrs, ?_⟩⟩
          · show (w.heap.push _)[w.heap.size]? = _
            simp
          · rw [List.take_of_length_le (by simp [hrs])]; rfl
        have hst := I.vec_set (v := .slice none 0 0) (k := h.nv) (m := h.nv + 1) (.inr ⟨rfl, rfl, rfl⟩) (fun b hb => by cases hb) hn hv (by simpa using e3) ⟨rfl, rfl, rfl, by simp, fun k hk _ => alloc_old _ hk⟩ (.inr rfl)
        obtain ⟨d1, d2⟩ := elsA_ok (Z := (E.grow h.nv (.slice (some ⟨w.heap.size, 0, none⟩) len len) h.ng e (h.nv + 1) ([] ++ r.toList)).Z) hst.ext.Z (b := w.heap.size) (o := 0) hds e2
          (fun i v hv => by simp only [Env.grow, Value.ownBlock, if_pos, List.nil_append, Nat.zero_add]; exact hv)
        have htl : (D.l ds).toL = ds := toL_l (by omega)
        refine ⟨_, _, .slice (some ⟨w.heap.size, 0, none⟩) len len, w.alloc (.cells r e), _, H, ?_, hst, ⟨⟨by unfold D.len; rw [htl, d1]; exact Nat.le_of_ble_eq_true b5, some ⟨w.heap.size, 0, none⟩, len, ?_, ?_, hl63, (by intro hh; cases hh), fun _ => ⟨w.heap.size, 0, rfl, fun i hi => ?_⟩⟩, by simp [Env.grow], by simp [Env.grow], fun _ => by simp [Env.grow]⟩⟩
        · have hne : len * n = 0 ∨ ¬ len * n = 0 := by omega
          unfold Instr.buildSlice
          simp only [Sem.run_bind, run_underlying hu, Result.andThen_ok, run_sizeOf hn]
          rw [if_neg (by omega)]
          rcases hne with h0 | h0
          · have hl0 : len = 0 := by
              rcases Nat.eq_zero_or_pos len with h | h
              · exact h
              · have := Nat.mul_pos h (show 0 < n by omega); omega
            subst hl0
            have hr0 : ∀ (g : Nat → Value), Array.map g (Array.range 0) = #[] := fun g => by simp
            simp only [Nat.zero_mul, hr0] at e1
            simp only [Nat.zero_mul, if_true, Sem.run_bind, Sem.run_pure, Result.andThen_ok, hr0, hps, e1]
            rfl
          · simp only [if_neg h0, Sem.run_bind, hzr, Result.andThen_ok, Sem.run_pure]
            rw [hps, e1]
            rfl
        · unfold D.len; rw [htl, d1]
        · unfold D.len; rw [htl, d1]; exact Nat.le_refl _
        · unfold D.len at hi
          rw [htl, d1] at hi
          have := d2 i hi
          unfold D.get
          rw [htl]
          simpa using this
      · exact buildSliceG_ok hps hT I H
    · exact H.elim
  · exact H.elim
end
end
end Go.Proofs.YtokiedeiamlnlaaGreat
