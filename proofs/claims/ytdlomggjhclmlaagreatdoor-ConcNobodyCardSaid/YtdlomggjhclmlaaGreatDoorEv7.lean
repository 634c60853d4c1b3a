/- Ev7: the evaluator's append, conversions. No condition. -/
import Derived.Test.YtdlomggjhclmlaaGreatDoorMg3
import Derived.ArgAppend
namespace Go.Proofs.YtdlomggjhclmlaaGreatDoor
set_option linter.unusedSimpArgs false
set_option linter.unusedVariables false
open Go.RowKit
set_option maxRecDepth 10000
noncomputable section
section
variable {P : Program} {E : Env} {F : Tm} {h : Hp} {w w0 : World} {G : Nat → Prop} {a : Act}

theorem stores_row (g o : Nat) (t : TypeId) (fr : Nat × Nat) : ∀ (vs : List Value) (i : Nat) (cur : Array Value) (w : World), w.heap[g]? = some (.cells cur t fr) → (fr = (0, 0) ∨ cur.size ≤ fr.1) → o + i + vs.length ≤ cur.size → (∀ v ∈ vs, v.oneCell' = true) →
    (storeCells ⟨g, o, none⟩ vs i).run P w = .ok () (w.setRow g (cur.toList.take (o + i) ++ vs ++ cur.toList.drop (o + i + vs.length)).toArray)
  | [], i, cur, w, hg, _, _, _ => by
    simp only [storeCells, List.append_nil, List.length_nil, Nat.add_zero, List.take_append_drop, Array.toArray_toList]
    rw [setRow_self w g cur t fr hg]
    rfl
  | v :: rest, i, cur, w, hg, hf, hl, h1 => by
    have hi : o + i < cur.size := by simp at hl; omega
    have hadd : (⟨g, o, none⟩ : Addr).add i = ⟨g, o + i, none⟩ := by unfold Addr.add; split <;> simp_all
    have hcell : w.cell? ⟨g, o + i, none⟩ = some cur[o + i] := by simp [World.cell?, hg, hi]
    have hfro : w.frozen? ⟨g, o + i, none⟩ = false := by
      simp only [World.frozen?, hg, Bool.and_eq_false_iff, decide_eq_false_iff_not]
      rcases hf with rfl | hf
      · right; omega
      · left; omega
    have hst : (store ((⟨g, o, none⟩ : Addr).add i) v).run P w = .ok () (w.setRow g (cur.setIfInBounds (o + i) v)) := by
      rw [hadd, run_store P w _ v _ (h1 v (by simp)), hcell]
      simp [hfro, setCell_eq_setRow w g (o + i) cur t fr v hg]
    have ih := stores_row g o t fr rest (i + 1) (cur.setIfInBounds (o + i) v) (w.setRow g (cur.setIfInBounds (o + i) v)) (setRow_heap w g cur _ t _ hg) (by simpa using hf) (by simp at hl ⊢; omega) (fun x hx => h1 x (by simp [hx]))
    simp only [storeCells, Sem.run_bind, hst, Result.andThen_ok, ih, setRow_setRow]
    congr 3
    have e := list_seg_step cur.toList (o + i) v rest (by simp at hl ⊢; omega)
    simpa [Array.toList_setIfInBounds, Nat.add_assoc] using e
theorem run_append_own2 {t e : TypeId} {i : TypeInfo} {zv : Value} (ht : P.underlying t = some (.slice e)) (hi : P.info? e = some i) (hz : i.zero = some zv) (hzs : zv.cells.size = i.size) (hpos : 0 < i.size) (hone : 1 ≤ i.bytes)
    {ty : TypeId} {v : Value} {n : Nat} {xs : List Value} (hown : ownsR w 0 e i.size v n xs) {src : Value} {m : Nat} {news : List Value} (hsrc : SrcOf w i.size src m news) (hbytes : (n + m) * i.bytes ≤ 140737488355328) :
    ∃ v' w', (Builtin.append_ #[t, t] ty #[v, src]).run P w = .ok v' w' ∧ ownsR w' 0 e i.size v' (n + m) (xs ++ news) ∧ Kpt w w' (fun b => v.ownBlock = some b ∧ v'.ownBlock = some b) ∧ (v'.ownBlock = v.ownBlock ∨ v'.ownBlock = some w.heap.size) := by
  have h63 : n + m ≤ maxLen := by
    have := Nat.le_trans (Nat.le_mul_of_pos_right (n + m) hone) hbytes
    unfold maxLen; omega
  have kp : ∀ {w' : World} {v' : Value} {r}, w.grownBy w' none → Kpt w w' (fun b => r = some b ∧ v'.ownBlock = some b) := fun h4 => ⟨h4.os, h4.tape, h4.output, h4.size, fun k hk _ => h4.block k hk (by simp)⟩
  rcases hsrc with ⟨rfl, rfl, rfl⟩ | ⟨ad, c, rfl, hl, hnews, h1⟩
  · refine ⟨v, w, ?_, by simpa using hown, Kpt.refl _ _, .inl rfl⟩
    rcases hown.2 with ⟨rfl, rfl⟩ | ⟨g, cap, cur, rfl, _, _, hnc, _⟩
    · simp [Builtin.append_, run_underlying ht, sizeOf, typeInfo, hi, Builtin.lenOf, Builtin.firstCells]
    · simp [Builtin.append_, run_underlying ht, sizeOf, typeInfo, hi, Builtin.lenOf, Builtin.firstCells, hnc, storeCells]
  · rcases hown.2 with ⟨rfl, rfl⟩ | ⟨g, cap, cur, rfl, hbg, ⟨fr, hg, hf⟩, hnc, hcm, hcs, htake⟩
    · have hx : xs = [] := List.eq_nil_of_length_eq_zero (by simpa using hown.1)
      subst hx
      obtain ⟨v', w', h2, h3, h4, _, h5⟩ := run_append_own_at (P := P) (w := w) 0 t ty e i zv i.size i.bytes ht hi hz rfl rfl hzs hpos _ 0 [] (World.ownsRow_nil w 0 e i.size) ad m c news hl hnews h1 h63 hbytes (Nat.zero_le _)
      exact ⟨v', w', h2, owns_r h3, ⟨h4.os, h4.tape, h4.output, h4.size, fun k hk _ => h4.block k hk (by simp [Value.ownBlock])⟩, h5⟩
    · by_cases hroom : n + m ≤ cap
      · have hfit : n * i.size + news.length ≤ cur.size := by rw [hl, hcs, ← Nat.add_mul]; exact Nat.mul_le_mul_right _ hroom
        have hfc := run_firstCells_some (P := P) w i.size m ad m c news hl hnews
        have hst := stores_row (P := P) g (n * i.size) e fr news 0 cur w hg (hf.imp_right And.right) (by simpa using hfit) h1
        simp only [Nat.add_zero] at hst
        have hlen : (xs ++ news).length = (n + m) * i.size := by rw [List.length_append, hown.1, hl, Nat.add_mul]
        have hsz : (cur.toList.take (n * i.size) ++ news ++ cur.toList.drop (n * i.size + news.length)).toArray.size = cur.size := by
          simp only [List.size_toArray, List.length_append, List.length_take, List.length_drop, Array.length_toList]
          omega
        refine ⟨.slice (some ⟨g, 0, none⟩) (n + m) cap, _, ?_, ⟨hlen, .inr ⟨g, cap, _, rfl, hbg, ⟨fr, setRow_heap w g cur _ e _ hg, ?_⟩, hroom, hcm, hsz.trans hcs, ?_⟩⟩, ⟨rfl, rfl, rfl, by simp, fun k _ hk => setRow_other w g k _ (fun e => hk (by simp [Value.ownBlock, e]))⟩, .inl rfl⟩
        · simp [Builtin.append_, run_underlying ht, sizeOf, typeInfo, hi, Builtin.lenOf, hroom, hfc, Addr.add_lit, hst]
        · rw [hsz]; exact hf
        · rw [htake, ← hlen]
          exact List.take_left
      · have holds : ∀ j u, xs[j]? = some u → w.cell? ((⟨g, 0, none⟩ : Addr).add j) = some u := hown.cells (g := g) rfl
        have hsmall : n + m ≤ 9223372036854775807 := by simp only [maxLen] at h63; omega
        have hr := run_append_grow (P := P) w t ty e i zv ht hi hz ⟨g, 0, none⟩ n cap xs hown.1 holds ad m c news hl hnews (by omega) (by omega) (growslice_fits (by omega) hbytes)
        obtain ⟨v', w', hr2, o2, g2⟩ := run_append_arg_grows (P := P) w t ty e i zv i.size i.bytes ht hi hz rfl rfl hzs hpos ⟨g, 0, none⟩ n cap xs hown.1 holds ad m c news hl hnews (by omega) h63 hbytes
        have he := hr.symm.trans hr2
        injection he with e1 e2
        refine ⟨v', w', hr2, owns_r o2, kp g2, .inr ?_⟩
        rw [← e1]; rfl

/-- an element that lies elsewhere now -/
theorem el_move {Z Z' : Nat → Nat → Option Value} (hZ : ∀ b j v, Z b j = some v → Z' b j = some v) : ∀ {es : List Sh} {b o b' o' : Nat} {d : D} {j : Nat}, EL Z es b o d j → (∀ i v, i < es.length → Z b (o + i) = some v → Z' b' (o' + i) = some v) → EL Z' es b' o' d j
  | [], _, _, _, _, _, _, _, _ => trivial
  | s :: es, b, o, b', o', d, j, ⟨⟨v, h1, h2⟩, h3⟩, hm => ⟨⟨v, hm 0 v (by simp) h1, LF.mono hZ _ _ _ h2⟩, el_move hZ h3 fun i u hi hu => by
      have := hm (i + 1) u (by simpa using hi) (by rwa [show o + (i + 1) = o + 1 + i by omega])
      rwa [show o' + 1 + i = o' + (i + 1) by omega]⟩
/-- the cells of a slice that is read -/
theorem slice_cells (I : Inv P w0 G E h w) {es : List Sh} {v : Value} {d : D} (hl : LF E.Z (.sl es) v d) : ∃ news : List Value, SrcOf w es.length v d.len news ∧ news.length = d.len * es.length ∧ (∀ u ∈ news, u.oneCell' = true) ∧
    (d.len ≠ 0 → ∃ b o, (∃ n c, v = .slice (some ⟨b, o, none⟩) n c) ∧ (∀ i, i < d.len → EL E.Z es b (o + i * es.length) (d.get i) 0) ∧ ∀ j u, news[j]? = some u → E.Z b (o + j) = some u) := by
  obtain ⟨_, ad, cap, rfl, h1, h2, h3, h4⟩ := hl
  by_cases h0 : d.len = 0
  · refine ⟨[], ?_, by simp [h0], by simp, fun h => absurd h0 h⟩
    cases ad with
    | none => have := h3 rfl; exact .inl ⟨by rw [h0, this], h0, rfl⟩
    | some ad => exact .inr ⟨ad, cap, rfl, by simp [h0], by simp, by simp⟩
  · obtain ⟨b, o, rfl, h5⟩ := h4 h0
    have hc : ∀ j, j < d.len * es.length → ∃ u, E.Z b (o + j) = some u ∧ u.oneCell' = true := fun j hj => by
      have hp : 0 < es.length := by
        rcases Nat.eq_zero_or_pos es.length with h | h
        · rw [h] at hj; omega
        · exact h
      have hq : j / es.length < d.len := by rw [Nat.div_lt_iff_lt_mul hp]; exact hj
      obtain ⟨vs, g1, g2, _, g4⟩ := el_leaves (kn := false) (E := E) (h5 _ hq)
      have hr : j % es.length < vs.length := by rw [g1]; exact Nat.mod_lt _ hp
      refine ⟨vs[j % es.length], ?_, g4 _ (List.getElem_mem hr)⟩
      have := g2 (j % es.length) _ (List.getElem?_eq_getElem hr)
      rw [show o + j = o + j / es.length * es.length + j % es.length by have := Nat.div_add_mod' j es.length; omega]
      exact this
    refine ⟨(List.range (d.len * es.length)).map fun j => (E.Z b (o + j)).getD undef, ?_, by simp, ?_, fun _ => ⟨b, o, ⟨_, _, rfl⟩, h5, fun j u hu => ?_⟩⟩
    · refine .inr ⟨⟨b, o, none⟩, cap, rfl, by simp, fun j u hu => ?_, fun u hu => ?_⟩
      · rw [List.getElem?_map] at hu
        have hj : j < d.len * es.length := by
          rcases Nat.lt_or_ge j (d.len * es.length) with h | h
          · exact h
          · rw [List.getElem?_eq_none (by simpa using h)] at hu; cases hu
        rw [List.getElem?_range hj] at hu
        obtain ⟨x, hx, _⟩ := hc j hj
        simp only [Option.map_some, hx, Option.getD_some, Option.some.injEq] at hu
        subst hu
        rw [addr_add']
        exact I.z _ _ _ hx
      · obtain ⟨j, hj, rfl⟩ := List.mem_map.1 hu
        obtain ⟨x, hx, h6⟩ := hc j (List.mem_range.1 hj)
        simp only [hx, Option.getD_some]; exact h6
    · intro u hu
      obtain ⟨j, hj, rfl⟩ := List.mem_map.1 hu
      obtain ⟨x, hx, h6⟩ := hc j (List.mem_range.1 hj)
      simp only [hx, Option.getD_some]; exact h6
    · rw [List.getElem?_map] at hu
      have hj : j < d.len * es.length := by
        rcases Nat.lt_or_ge j (d.len * es.length) with h | h
        · exact h
        · rw [List.getElem?_eq_none (by simpa using h)] at hu; cases hu
      rw [List.getElem?_range hj] at hu
      obtain ⟨x, hx, _⟩ := hc j hj
      simp only [Option.map_some, hx, Option.getD_some, Option.some.injEq] at hu
      subst hu; exact hx
theorem app_len {d d' : D} (hle : d.len + d'.len ≤ maxLen) : (d.app d').len = d.len + d'.len := by
  unfold D.len D.app at *
  rw [toL_l (by simpa using hle)]; simp
theorem app_get {d d' : D} (hle : d.len + d'.len ≤ maxLen) (i : Nat) : (d.app d').get i = if i < d.len then d.get i else d'.get (i - d.len) := by
  unfold D.get D.app D.len at *
  rw [toL_l (by simpa using hle)]
  split
  · rename_i h; rw [List.getD_eq_getElem?_getD, List.getD_eq_getElem?_getD, List.getElem?_append_left h]
  · rename_i h; rw [List.getD_eq_getElem?_getD, List.getD_eq_getElem?_getD, List.getElem?_append_right (by omega)]

/-- what an append leaves -/
theorem append_core (I : Inv P w0 G E h w) {t e : TypeId} {i : TypeInfo} {zv : Value} (ht : P.underlying t = some (.slice e)) (hi : P.info? e = some i) (hz : i.zero = some zv) (hzs : zv.cells.size = i.size) (hpos : 0 < i.size) (hone : 1 ≤ i.bytes)
    {ty : TypeId} {v : Value} {es : List Sh} {d d' : D} (hes : es.length = i.size) {k m : Nat} (hk : k < h.nv ∧ m = h.nv ∧ E.vc k = v ∨ k = h.nv ∧ m = h.nv + 1 ∧ v.ownBlock = none)
    {n : Nat} {xs : List Value} (hown : ownsR w 0 e i.size v n xs) (hx1 : ∀ u ∈ xs, u.oneCell' = true)
    (hold : ∀ b, v.ownBlock = some b → (w0.heap.size ≤ b ∨ G b) ∧ (∀ o, E.live o → E.β o ≠ b) ∧ ∀ j, E.Z b j = xs[j]?) (hv : LF E.Z (.sl es) v d)
    {src : Value} (hs : LF E.Z (.sl es) src d') (hbz : (d.len + d'.len) * szB es ≤ room) (hbb : i.bytes ≤ szB es) :
    ∃ v' w' E', (Builtin.append_ #[t, t] ty #[v, src]).run P w = .ok v' w' ∧ Stepd P w0 G E h w E' { h with gn := (k, h.ng, e) :: h.gn, nv := m, ng := h.ng + 1 } w' ∧
      LF E'.Z (.sl es) v' (d.app d') ∧ k < E'.m ∧ h.ng < E'.ng ∧ E'.gn k = h.ng ∧ v' = E'.vc k := by
  have hb : (d.len + d'.len) * i.bytes ≤ room := Nat.le_trans (Nat.mul_le_mul_left _ hbb) hbz
  obtain ⟨news, hsrc, hnl, hn1, hnz⟩ := slice_cells I hs
  rw [hes] at hsrc hnl
  have hvn : n = d.len := by
    obtain ⟨_, ad, cap, rfl, _⟩ := hv
    rcases hown.2 with ⟨h0, h1⟩ | ⟨g, cap', cur, h0, _⟩
    · injection h0 with _ h2 _; omega
    · injection h0 with _ h2 _; exact h2.symm
  subst hvn
  have hle : d.len + d'.len ≤ maxLen := by
    have := Nat.le_trans (Nat.le_mul_of_pos_right (d.len + d'.len) hone) hb
    unfold room at this; unfold maxLen; omega
  obtain ⟨v', w', e1, e2, e3, e4⟩ := run_append_own2 (ty := ty) ht hi hz hzs hpos hone hown hsrc hb
  have hst := I.vec_set hk hold (sz := i.size) (by unfold sizeT; rw [hi]; rfl) e2 (by
    intro u hu
    rcases List.mem_append.1 hu with h | h
    · exact hx1 u h
    · exact hn1 u h) e3 e4
  refine ⟨v', w', _, e1, hst, ?_, ?_, by simp [Env.grow], by simp [Env.grow], by simp [Env.grow]⟩
  · have hv' : ∃ ad cap, v' = .slice ad (d.len + d'.len) cap ∧ d.len + d'.len ≤ cap ∧ cap ≤ maxLen ∧ (ad = none → cap = 0) ∧ ∀ b, v'.ownBlock = some b → ad = some ⟨b, 0, none⟩ := by
      rcases e2.2 with ⟨rfl, h0⟩ | ⟨g, cap, cur, rfl, _, _, h1, h2, _⟩
      · exact ⟨none, 0, by rw [h0], by omega, Nat.zero_le _, fun _ => rfl, fun b hb => by cases hb⟩
      · exact ⟨some ⟨g, 0, none⟩, cap, rfl, h1, h2, (fun h => by cases h), (fun b hb => by cases hb; rfl)⟩
    obtain ⟨ad, cap, f1, f2, f3, f4, f5⟩ := hv'
    refine ⟨by rw [app_len hle]; exact hbz, ad, cap, by rw [app_len hle]; exact f1, by rw [app_len hle]; exact f2, f3, f4, fun hne => ?_⟩
    rw [app_len hle] at hne
    obtain ⟨b, hbo⟩ : ∃ b, v'.ownBlock = some b := by
      rcases e2.2 with ⟨rfl, h0⟩ | ⟨g, _, _, rfl, _⟩
      · omega
      · exact ⟨g, rfl⟩
    refine ⟨b, 0, f5 b hbo, fun q hq => ?_⟩
    rw [app_len hle] at hq
    rw [app_get hle]
    have hxl : xs.length = d.len * i.size := hown.1
    have hZb : ∀ j, (E.grow k v' h.ng e m (xs ++ news)).Z b j = (xs ++ news)[j]? := fun j => by simp only [Env.grow, if_pos hbo]
    by_cases hqd : q < d.len
    · rw [if_pos hqd]
      obtain ⟨_, ad0, cap0, rfl, g1, g2, g3, g4⟩ := hv
      obtain ⟨b0, o0, rfl, g5⟩ := g4 (by omega)
      have ho0 : o0 = 0 := by
        rcases hown.2 with ⟨h0, _⟩ | ⟨g, _, _, h0, _⟩
        · cases h0
        · injection h0 with h0 _ _; injection h0 with h0; injection h0
      subst ho0
      refine el_move hst.ext.Z (g5 q hqd) fun t u ht hu => ?_
      rw [hZb]
      rw [(hold b0 rfl).2.2] at hu
      rw [List.getElem?_append_left (List.getElem?_eq_some_iff.1 hu).1]
      exact hu
    · rw [if_neg hqd]
      obtain ⟨bs, os, _, g5, g6⟩ := hnz (by omega)
      refine el_move hst.ext.Z (g5 (q - d.len) (by omega)) fun t u ht hu => ?_
      rw [hZb]
      have hidx : 0 + q * es.length + t = xs.length + ((q - d.len) * es.length + t) := by
        rw [hxl, hes]
        have : q * i.size = d.len * i.size + (q - d.len) * i.size := by rw [← Nat.add_mul]; congr 1; omega
        omega
      rw [hidx, List.getElem?_append_right (by omega), Nat.add_sub_cancel_left]
      have hlt : (q - d.len) * es.length + t < news.length := by
        rw [hnl, ← hes]
        have : (q - d.len) * es.length + es.length ≤ d'.len * es.length := by rw [← Nat.succ_mul]; exact Nat.mul_le_mul_right _ (by omega)
        omega
      have := g6 _ _ (List.getElem?_eq_getElem hlt)
      rw [← Nat.add_assoc, hu] at this
      rw [List.getElem?_eq_getElem hlt]
      exact this.symm
  · rcases hk with ⟨h1, rfl, _⟩ | ⟨rfl, rfl, _⟩
    · exact h1
    · exact Nat.lt_succ_self _
theorem ble_lt {n : Nat} (h : Nat.ble 1 n = true) : 0 < n := Nat.le_of_ble_eq_true h
theorem appendA_ok {K : AV × Hp → Prop} {t ty : TypeId} {s x : AV} {vs vx : Value} (H : (appendA P t s x h).holds K) (I : Inv P w0 G E h w) (hs : Rel E s vs) (hx : Rel E x vx) :
    ∃ av h' u w' E', K (av, h') ∧ (Builtin.append_ #[t, t] ty #[vs, vx]).run P w = .ok u w' ∧ Stepd P w0 G E h w E' h' w' ∧ Rel E' av u := by
  unfold appendA at H
  split at H
  · exact H.elim
  rename_i e he
  have hu := elemA_ok he
  split at H
  · exact H.elim
  rename_i i hi
  split at H
  · exact H.elim
  rename_i z hz
  cases hb : Nat.beq z.cells.size i.size && Nat.ble 1 i.size && Nat.ble 1 i.bytes && Nat.beq (shE P e).length i.size && Nat.ble i.bytes (szB (shE P e))
  · rw [hb] at H; exact H.elim
  rw [hb] at H
  simp only [Bool.and_eq_true, cond_true] at hb H
  obtain ⟨⟨⟨⟨b1, b2⟩, b3⟩, b4⟩, b5⟩ := hb
  have hbb := Nat.le_of_ble_eq_true b5
  have hzs := Nat.eq_of_beq_eq_true b1
  have hes := Nat.eq_of_beq_eq_true b4
  split at H
  · exact H.elim
  rename_i k2 es' d' hasl
  have hsrc := asSl_ok hasl hx
  split at H
  · rename_i k1 es d k g
    obtain ⟨hv, hkm, hgn, hcur⟩ := hs
    have hknv : k < h.nv := by rw [← I.m]; exact hkm
    split at H
    · rename_i g' e' hlg
      cases hc : Nat.beq g g' && Nat.beq e e' && Sh.eqsL es es' && Sh.eqsL es (shE P e)
      · rw [hc] at H; exact H.elim
      rw [hc] at H
      simp only [Bool.and_eq_true, cond_true] at hc H
      obtain ⟨⟨⟨c1, c2⟩, c3⟩, c4⟩ := hc
      obtain rfl := Nat.eq_of_beq_eq_true c1
      obtain rfl := Nat.eq_of_beq_eq_true c2
      obtain rfl := Sh.eqsL_eq _ _ c3
      have hes' := Sh.eqsL_eq _ _ c4
      have hH : (d.len + d'.len) * szB es ≤ room ∧ K (.sl (k1 && k2) es (d.app d') (some (k, h.ng)), { h with gn := (k, h.ng, e) :: h.gn, ng := h.ng + 1 }) := by
        cases h0 : k1 && Nat.beq d.len 0
        · rw [h0] at H
          obtain ⟨hroom, H⟩ := need_holds H
          exact ⟨of_decide_eq_true hroom, H⟩
        · rw [h0] at H
          simp only [Bool.and_eq_true] at h0
          have h00 := Nat.eq_of_beq_eq_true h0.2
          exact ⟨by rw [h00, Nat.zero_add]; exact hsrc.1, H⟩
      obtain ⟨hroom', H⟩ := hH
      have hgn2 := (I.gn k hknv).symm.trans hlg
      injection hgn2 with hgn2
      have hg1 : E.gn k = g := congrArg Prod.fst hgn2
      have hg2 : E.ve k = e := congrArg Prod.snd hgn2
      obtain ⟨sz, n, xs, f1, f2, f3, f4⟩ := I.vec k hknv
      have hsz : sz = i.size := by rw [hg2] at f1; unfold sizeT at f1; rw [hi] at f1; exact (Option.some.inj f1).symm
      subst hsz
      rw [hg2, ← hcur hg1] at f2
      rw [← hcur hg1] at f4
      obtain ⟨v', w', E', e1, e2, e3, e4, e5, e6, e7⟩ := append_core (ty := ty) I hu hi hz hzs (ble_lt b2) (ble_lt b3) (es := es) (by rw [hes']; exact hes) (k := k) (m := h.nv) (.inl ⟨hknv, rfl, (hcur hg1).symm⟩) f2 f3 f4 hv hsrc hroom' (by rw [hes']; exact hbb)
      exact ⟨_, _, v', w', E', H, e1, e2, e3, e4, e5, fun _ => e7⟩
    · exact H.elim
  · obtain ⟨rfl, _⟩ := hs
    cases hc : Sh.eqsL (shE P e) es'
    · rw [hc] at H; exact H.elim
    rw [hc] at H
    obtain rfl := Sh.eqsL_eq _ _ hc
    have hroom' := hsrc.1
    have h0 : (D.l []).len = 0 := by simp [D.len, D.toL, D.raw]
    obtain ⟨v', w', E', e1, e2, e3, e4, e5, e6, e7⟩ := append_core (ty := ty) (v := .slice none 0 0) (d := .l []) I hu hi hz hzs (ble_lt b2) (ble_lt b3) hes (k := h.nv) (m := h.nv + 1) (.inr ⟨rfl, rfl, rfl⟩) (n := 0) (xs := []) ⟨by simp, .inl ⟨rfl, rfl⟩⟩ (by simp) (fun b hb => by cases hb)
      ⟨by rw [h0, Nat.zero_mul]; exact Nat.zero_le _, none, 0, by rw [h0], by rw [h0]; exact Nat.le_refl _, Nat.zero_le _, fun _ => rfl, fun hn => absurd h0 hn⟩ hsrc (by rw [h0, Nat.zero_add]; exact hroom') hbb
    exact ⟨_, _, v', w', E', H, e1, e2, e3, e4, e5, fun _ => e7⟩
  · exact H.elim
end
end
end Go.Proofs.YtdlomggjhclmlaaGreatDoor
