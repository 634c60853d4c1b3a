/- EvG: rows of one's own that may change, and what is handed on of them. No condition. -/
import Derived.Test.YtokiedeiamlnlaaGreatEvF
namespace Go.Proofs.YtokiedeiamlnlaaGreat
set_option linter.unusedSimpArgs false
set_option linter.unusedVariables false
open Go.RowKit
set_option maxRecDepth 10000
noncomputable section
/-- a cell's shape, where it is data -/
def shC : AV → Option Sh
  | .sc _ (.int k _) => some (.int k)
  | .sc _ (.bool _) => some .bool
  | .sc _ (.string _) => some .str
  | .sl _ es _ _ => some (.sl es)
  | _ => none
def shCs : List AV → Option (List Sh)
  | [] => some []
  | x :: xs => match shC x, shCs xs with
    | some s, some ss => some (s :: ss)
    | _, _ => none
def thawC : AV → AV
  | .sc kn v => .sc kn v
  | .sl kn es d _ => .sl kn es d none
  | _ => .any
/-- a slice of cells as data, where it may be -/
def vslT (n len : Nat) (cs : List AV) : AV := match shCs ((cs.take n).map thawC) with
  | some es => (match mkSl es n len (cs.map thawC) none with | .sl kn es d _ => .sl kn es d none | _ => .any)
  | none => .any
def vslO (h : Hp) (o off n len : Nat) : AV := match lookO o h.ob with
  | some cs => bif isVar cs && Nat.ble (off + len * n) cs.length then vslT n len ((cs.drop off).take (len * n)) else .any
  | none => .any
mutual
/-- a value, its rows read -/
def thaw (h : Hp) : AV → AV
  | .rsl kn o n _ => match rowOf o h with
    | some (es, d) => bif Nat.beq n es.length then .sl kn es d none else .any
    | none => .any
  | .rp _ _ _ _ _ => .any
  | .rw es d => .rw es d
  | .ptr _ _ => .any
  | .mp _ => .any
  | .sl kn es d _ => .sl kn es d none
  | .fn _ _ _ => .any
  | .agg cs => .agg (thawL h cs)
  | .tup vs => .tup (thawL h vs)
  | .any => .any
  | .sc kn v => .sc kn v
  | .ep kn es d j => .ep kn es d j
  | .vsl o off n len _ => vslO h o off n len
  | .al n len cs _ => vslT n len cs
  | .ea _ => .any
def thawL (h : Hp) : List AV → List AV
  | [] => []
  | x :: xs => thaw h x :: thawL h xs
end
mutual
/-- rows are handed on whole -/
def thawB (h : Hp) : AV → Bool
  | .rsl _ o _ len => match rowOf o h with
    | some (_, d) => decide (len = d.len)
    | none => true
  | .agg cs => thawBL h cs
  | .tup vs => thawBL h vs
  | .rw _ _ => false
  | _ => true
def thawBL (h : Hp) : List AV → Bool
  | [] => true
  | x :: xs => bif thawB h x then thawBL h xs else false
end
theorem re_el {Z Z' : Nat → Nat → Option Value} (hZ : ∀ b j v, Z b j = some v → Z' b j = some v) {cs : Array Value} {b : Nat} (hc : ∀ k v, cs[k]? = some v → Z' b k = some v) : ∀ {es : List Sh} {p : Nat} {d : D} {j : Nat}, RE Z es cs p d j → EL Z' es b p d j
  | [], _, _, _, _ => trivial
  | _ :: _, _, _, _, ⟨⟨v, h1, h2⟩, h3⟩ => ⟨⟨v, hc _ _ h1, LF.mono hZ _ _ _ h2⟩, re_el hZ hc h3⟩
theorem el_re {Z : Nat → Nat → Option Value} {news : List Value} {b o : Nat} (hz : ∀ j u, news[j]? = some u → Z b (o + j) = some u) : ∀ {es : List Sh} {p : Nat} {d : D} {j : Nat}, p + es.length ≤ news.length → EL Z es b (o + p) d j → RE Z es news.toArray p d j
  | [], _, _, _, _, _ => trivial
  | s :: ss, p, d, j, hp, ⟨⟨v, h1, h2⟩, h3⟩ => by
    simp only [List.length_cons] at hp
    have hn : news[p]? = some news[p] := List.getElem?_eq_getElem (by omega)
    have h4 := hz p _ hn
    rw [h1] at h4
    refine ⟨⟨v, by rw [List.getElem?_toArray, hn, ← Option.some.inj h4], h2⟩, el_re hz (by omega) (by rwa [show o + p + 1 = o + (p + 1) by omega] at h3)⟩
section
variable {P : Program} {E : Env} {h : Hp} {w w0 w' : World} {G : Nat → Prop}
theorem thawC_rel {Ef : Env} (hZ : ∀ b j v, E.Z b j = some v → Ef.Z b j = some v) : ∀ {x : AV} {v : Value}, Rel E x v → Rel Ef (thawC x) v := by
  intro x v H
  cases x <;> first | exact trivial | exact H | skip
  exact ⟨LF.mono hZ _ _ _ H.1, trivial⟩
theorem thawC_relL {Ef : Env} (hZ : ∀ b j v, E.Z b j = some v → Ef.Z b j = some v) : ∀ {xs : List AV} {vs : List Value}, RelL E xs vs → RelL Ef (xs.map thawC) vs
  | [], _, H => H
  | _ :: _, _, ⟨v, vs', h1, h2, h3⟩ => ⟨v, vs', h1, thawC_rel hZ h2, thawC_relL hZ h3⟩
theorem vslT_rel {Ef : Env} {n len : Nat} {cs : List AV} {v : Value} (H : Rel Ef (.al n len (cs.map thawC) none) v) : Rel Ef (vslT n len cs) v := by
  unfold vslT
  split
  · rename_i es _
    have := mkSl_rel (es := es) H
    split
    · rename_i heq
      rw [heq] at this
      exact ⟨this.1, trivial⟩
    · exact trivial
  · exact trivial
theorem vslO_rel {Ef : Env} (hZ : ∀ b j v, E.Z b j = some v → Ef.Z b j = some v) (hO : ∀ o, E.live o → ∀ k v, w'.cell? ⟨E.β o, k, none⟩ = some v → Ef.Z (E.β o) k = some v) (I : Inv P w0 G E h w') {o off n len cap : Nat} {v : Value} (H : Rel E (.vsl o off n len cap) v) : Rel Ef (vslO h o off n len) v := by
  obtain ⟨hl, g1, g2, rfl⟩ := H
  unfold vslO
  split
  · rename_i cs hlo
    cases hc : isVar cs && Nat.ble (off + len * n) cs.length
    · exact trivial
    simp only [Bool.and_eq_true] at hc
    have hle := Nat.le_of_ble_eq_true hc.2
    obtain ⟨vs, ob, hblk, hrel, hok⟩ := I.ob o cs hlo
    obtain ⟨ty, rfl, h1⟩ := ob_cells hc.1 hrel hok
    refine vslT_rel ⟨⟨(vs.drop off).take (len * n), E.β o, off, cap, thawC_relL hZ ((hrel.drop off).take _), fun u hu => h1 u (List.mem_of_mem_drop (List.mem_of_mem_take hu)), by simp only [List.length_map, List.length_take, List.length_drop]; omega, rfl, g1, g2, fun i u hu => ?_⟩, trivial⟩
    refine hO o hl _ _ ?_
    rw [cell_of_row w' _ _ _ _ _ hblk]
    rw [List.getElem?_take] at hu
    split at hu
    · rw [List.getElem?_drop] at hu; simpa using hu
    · cases hu
  · exact trivial
mutual
theorem thaw_rel {Zf : Nat → Nat → Option Value} {Ef : Env} (hEf : Ef.Z = Zf) (hZ : ∀ b j v, E.Z b j = some v → Zf b j = some v) (hO : ∀ o, E.live o → ∀ k v, w'.cell? ⟨E.β o, k, none⟩ = some v → Zf (E.β o) k = some v) (I : Inv P w0 G E h w') : ∀ (x : AV) (v : Value), Rel E x v → thawB h x = true → Rel Ef (thaw h x) v
  | .any, _, _, _ => trivial
  | .sc _ _, _, H, _ => H
  | .ptr _ _, _, _, _ => trivial
  | .mp _, _, _, _ => trivial
  | .fn _ _ _, _, _, _ => trivial
  | .rp _ _ _ _ _, _, _, _ => trivial
  | .vsl o off n len cap, v, H, _ => vslO_rel (fun b j v hz => by rw [hEf]; exact hZ b j v hz) (fun o hl k v hv => by rw [hEf]; exact hO o hl k v hv) I H
  | .al n len cs tip, v, ⟨⟨vs, b, o, cap, h1, h2, h3, h4, h5, h6, hz⟩, _⟩, _ => vslT_rel ⟨⟨vs, b, o, cap, thawC_relL (fun b j v hz => by rw [hEf]; exact hZ b j v hz) h1, h2, by simpa using h3, h4, h5, h6, fun i u hu => by rw [hEf]; exact hZ _ _ _ (hz i u hu)⟩, trivial⟩
  | .ea _, _, _, _ => trivial
  | .rw _ _, _, _, hb => by simp [thawB] at hb
  | .sl kn es d tip, v, ⟨h1, _⟩, _ => ⟨by rw [hEf]; exact LF.mono hZ _ _ _ h1, trivial⟩
  | .ep kn es d j, v, ⟨b, o, h1, h2⟩, _ => ⟨b, o, h1, by rw [hEf]; exact EL.mono hZ _ _ _ _ _ h2⟩
  | .agg cs, v, ⟨vs, h1, h2, h3⟩, hb => ⟨vs, h1, thaw_relL hEf hZ hO I cs _ h2 (by simpa [thawB] using hb), h3⟩
  | .tup cs, v, ⟨vs, h1, h2⟩, hb => ⟨vs, h1, thaw_relL hEf hZ hO I cs _ h2 (by simpa [thawB] using hb)⟩
  | .rsl kn o n len, v, ⟨hl, ad, cap, g1, g2, g3, g4, g5⟩, hb => by
    simp only [thaw]
    simp only [thawB] at hb
    cases hr : rowOf o h with
    | none => exact trivial
    | some p =>
      obtain ⟨es, d⟩ := p
      simp only
      rw [hr] at hb
      have hlen : len = d.len := of_decide_eq_true hb
      cases hn : Nat.beq n es.length
      · exact trivial
      · obtain rfl := Nat.eq_of_beq_eq_true hn
        subst hlen
        obtain ⟨_, cs, ty, hblk, hbd, hre⟩ := row_ob I hr
        refine ⟨⟨hbd, ad, cap, g1, g2, g3, g4, fun hne => ⟨E.β o, 0, g5 hne, fun i hi => ?_⟩⟩, trivial⟩
        rw [hEf, Nat.zero_add]
        refine re_el hZ (fun k u hk => hO o hl k u ?_) (hre i hi)
        have hblk' : w'.heap[E.β o]? = some (.cells cs.toList.toArray ty (0, 0)) := by simpa using hblk
        rw [cell_of_row w' _ k _ _ _ hblk']
        simpa using hk
theorem thaw_relL {Zf : Nat → Nat → Option Value} {Ef : Env} (hEf : Ef.Z = Zf) (hZ : ∀ b j v, E.Z b j = some v → Zf b j = some v) (hO : ∀ o, E.live o → ∀ k v, w'.cell? ⟨E.β o, k, none⟩ = some v → Zf (E.β o) k = some v) (I : Inv P w0 G E h w') : ∀ (xs : List AV) (vs : List Value), RelL E xs vs → thawBL h xs = true → RelL Ef (thawL h xs) vs
  | [], _, H, _ => H
  | x :: xs, _, ⟨v, vs', h1, h2, h3⟩, hb => by
    simp only [thawBL] at hb
    cases hx : thawB h x
    · rw [hx] at hb; cases hb
    · rw [hx] at hb; exact ⟨v, vs', h1, thaw_rel hEf hZ hO I x v h2 hx, thaw_relL hEf hZ hO I xs vs' h3 hb⟩
end
end
section
variable {P : Program} {E : Env} {h : Hp} {w w0 w' : World} {G : Nat → Prop}
theorem newO_at {cs : List AV} {vs : List Value} (t : Obj) (I : Inv P w0 G E h w) {g : Nat} (hbel : Below w.heap.size w w') (hg : w.heap.size ≤ g) (hblk : w'.heap[g]? = some t) (hr : RelL E cs vs) (h1 : ObOk t vs) :
    ∃ E', Stepd P w0 G E h w E' (newA cs h).2 w' ∧ E'.live h.nx ∧ E'.β h.nx = g ∧ E'.Z = E.Z := by
  have hnl : ¬ E.live h.nx := fun hl => by have := I.nx _ hl; omega
  have hext : Ext E { E with β := fun o => if o = h.nx then g else E.β o, live := fun o => E.live o ∨ o = h.nx } :=
    ⟨fun o ho => .inl ho, fun o ho => if_neg fun e : o = h.nx => hnl (e ▸ ho), fun _ _ _ hz => hz, Nat.le_refl _, Nat.le_refl _, fun _ _ => .inl ⟨rfl, rfl⟩⟩
  have hold : ∀ k, k < w.heap.size → w'.heap[k]? = w.heap[k]? := fun k hk => hbel.block k hk
  have hlt : ∀ o, E.live o → E.β o ≠ g := fun o ho => by have := I.live_lt ho; omega
  refine ⟨_, ⟨hext, ⟨I.kpt.then (Kpt.of_below hbel fun _ => False) (fun _ hf => hf.elim), I.m, I.ng, I.gn, I.gnlt, fun p => ?_, fun p hp => ?_, fun p cp hp => ?_, fun p hp => ?_, fun p q hp hq => ?_, fun b j v hz => ?_, fun p j hp => ?_, fun k hkn => ?_, I.vinj, I.laid.mono hext⟩, fun p hp => ?_, fun _ _ _ hz => .inl hz⟩, .inr rfl, by simp, rfl⟩
  · simp only [newA, lookO_cons]
    split
    · rename_i e; subst e; simp
    · rename_i e
      rw [← I.live p]
      exact ⟨fun hh => hh.resolve_right fun e' => e e'.symm, .inl⟩
  · rcases hp with hp | rfl
    · have := I.nx p hp; simp only [newA]; omega
    · simp only [newA]; omega
  · simp only [newA, lookO_cons] at hp
    split at hp
    · rename_i e; subst e; cases hp
      exact ⟨vs, t, by simp only [if_pos]; exact hblk, RelL.mono hext _ _ hr, h1⟩
    · rename_i e
      obtain ⟨us, t', g1, g2, g3⟩ := I.ob p cp hp
      have hlp : E.live p := (I.live p).2 (by rw [hp]; rfl)
      refine ⟨us, t', ?_, RelL.mono hext _ _ g2, g3⟩
      simp only [if_neg (fun e' : p = h.nx => e (Eq.symm e'))]
      exact (hold _ (I.live_lt hlp)).trans g1
  · rcases hp with hp | rfl
    · simp only [if_neg (fun e : p = h.nx => hnl (e ▸ hp))]; exact I.own p hp
    · simp only [if_pos]; exact .inl (Nat.le_trans I.kpt.size hg)
  · intro e
    by_cases ep : p = h.nx <;> by_cases eq : q = h.nx
    · rw [ep, eq]
    · simp only [ep, eq, if_pos, if_neg, not_false_eq_true] at e
      exact absurd e.symm (hlt q (hq.resolve_right eq))
    · simp only [ep, eq, if_pos, if_neg, not_false_eq_true] at e
      exact absurd e (hlt p (hp.resolve_right ep))
    · simp only [if_neg ep, if_neg eq] at e
      exact I.inj p q (hp.resolve_right ep) (hq.resolve_right eq) e
  · have hc := I.z b j v hz
    rw [cell_same (hold b (cell_lt hc))]; exact hc
  · by_cases ep : p = h.nx
    · simp only [if_pos ep]; exact I.z_fresh hg j
    · simp only [if_neg ep]; exact I.zob p j (hp.resolve_right ep)
  · obtain ⟨sz, n, xs, g1, g2, g3, g4⟩ := I.vec k hkn
    refine ⟨sz, n, xs, g1, owns_same g2 fun b hb' => hold b (owns_lt g2 hb'), g3, fun b hb' => ⟨(g4 b hb').1, fun o ho => ?_, (g4 b hb').2.2⟩⟩
    by_cases ep : o = h.nx
    · simp only [if_pos ep]; have := owns_lt g2 hb'; omega
    · simp only [if_neg ep]; exact (g4 b hb').2.1 o (ho.resolve_right ep)
  · have : p ≠ h.nx := fun e => hnl (e ▸ hp)
    simp only [ver, newA, cnt_cons, if_neg (fun e : h.nx = p => this (Eq.symm e))]
    exact ⟨Nat.le_refl _, fun _ => hold _ (I.live_lt hp)⟩
/-- a row of one's own that may change -/
theorem own_rowE (I : Inv P w0 G E h w) {e : TypeId} {kn : Bool} {es : List Sh} {d : D} {v : Value} {news : List Value} (hbel : Below w.heap.size w w') (ho : w'.ownsRow w.heap.size e es.length v d.len news) (h0 : d.len ≠ 0) (hbd : d.len * szB es ≤ room)
    (hre : ∀ i, i < d.len → RE E.Z es news.toArray (i * es.length) (d.get i) 0) :
    ∃ E', Stepd P w0 G E h w E' (newA [.rw es d] h).2 w' ∧ Rel E' (.rsl kn h.nx es.length d.len) v := by
  rcases ho.2 with ⟨_, hz⟩ | ⟨g, cap, cur, rfl, hg, hblk, hnc, hcm, hcs, htk⟩
  · exact absurd hz h0
  · have hre' : ∀ i, i < d.len → RE E.Z es cur (i * es.length) (d.get i) 0 := fun i hi => re_iff.2 fun k s hk => by
      obtain ⟨u, hu, hl⟩ := re_iff.1 (hre i hi) k s hk
      refine ⟨u, ?_, hl⟩
      have hu' : news[i * es.length + k]? = some u := by simpa using hu
      rw [← htk, List.getElem?_take] at hu'
      split at hu'
      · simpa using hu'
      · cases hu'
    obtain ⟨E', g1, g2, g3, g4⟩ := newO_at (.cells cur e (0, 0)) (cs := [.rw es d]) (vs := [.agg cur]) I hbel hg hblk ⟨_, [], rfl, ⟨hbd, cur, rfl, hre'⟩, rfl⟩ (.inr (.inr ⟨cur, e, rfl, rfl⟩))
    exact ⟨E', g1, g2, _, cap, rfl, hnc, hcm, (fun hn => by cases hn), fun _ => by rw [g3]⟩
end
mutual
/-- a value, its rows read, if they are handed on whole -/
def thawR (h : Hp) : AV → RT AV
  | .rsl kn o n len => match rowOf o h with
    | some (es, d) => bif Nat.beq n es.length then need kn (decide (len = d.len)) 213 (.ok (.sl kn es d none)) else .bad 213
    | none => .ok .any
  | .rp _ _ _ _ _ => .ok .any
  | .rw _ _ => .bad 214
  | .ptr _ _ => .ok .any
  | .mp _ => .ok .any
  | .sl kn es d _ => .ok (.sl kn es d none)
  | .fn _ _ _ => .ok .any
  | .agg cs => (thawRL h cs).bind fun cs => .ok (.agg cs)
  | .tup vs => (thawRL h vs).bind fun vs => .ok (.tup vs)
  | .any => .ok .any
  | .sc kn v => .ok (.sc kn v)
  | .ep kn es d j => .ok (.ep kn es d j)
  | .vsl o off n len _ => .ok (vslO h o off n len)
  | .al n len cs _ => .ok (vslT n len cs)
  | .ea _ => .ok .any
def thawRL (h : Hp) : List AV → RT (List AV)
  | [] => .ok []
  | x :: xs => (thawR h x).bind fun x => (thawRL h xs).bind fun xs => .ok (x :: xs)
end
mutual
theorem thawR_ok {h : Hp} : ∀ {x : AV} {Q : AV → Prop}, (thawR h x).holds Q → thawB h x = true ∧ Q (thaw h x)
  | .rsl kn o n len, Q, H => by
    simp only [thawR] at H
    simp only [thawB, thaw]
    split at H
    · rename_i es d hr
      cases hn : Nat.beq n es.length
      · rw [hn] at H; exact H.elim
      · rw [hn] at H
        obtain ⟨h1, h2⟩ := need_holds H
        exact ⟨h1, h2⟩
    · exact ⟨rfl, H⟩
  | .rp _ _ _ _ _, Q, H => ⟨rfl, H⟩
  | .vsl _ _ _ _ _, Q, H => ⟨rfl, H⟩
  | .al _ _ _ _, Q, H => ⟨rfl, H⟩
  | .ea _, Q, H => ⟨rfl, H⟩
  | .rw _ _, Q, H => H.elim
  | .ptr _ _, Q, H => ⟨rfl, H⟩
  | .mp _, Q, H => ⟨rfl, H⟩
  | .sl _ _ _ _, Q, H => ⟨rfl, H⟩
  | .fn _ _ _, Q, H => ⟨rfl, H⟩
  | .agg cs, Q, H => by
    simp only [thawR, RT.holds_bind] at H
    simp only [thawB, thaw]
    exact thawRL_ok (Q := fun cs => Q (.agg cs)) H
  | .tup cs, Q, H => by
    simp only [thawR, RT.holds_bind] at H
    simp only [thawB, thaw]
    exact thawRL_ok (Q := fun cs => Q (.tup cs)) H
  | .any, Q, H => ⟨rfl, H⟩
  | .sc _ _, Q, H => ⟨rfl, H⟩
  | .ep _ _ _ _, Q, H => ⟨rfl, H⟩
theorem thawRL_ok {h : Hp} : ∀ {xs : List AV} {Q : List AV → Prop}, (thawRL h xs).holds Q → thawBL h xs = true ∧ Q (thawL h xs)
  | [], Q, H => ⟨rfl, H⟩
  | x :: xs, Q, H => by
    simp only [thawRL, RT.holds_bind] at H
    simp only [thawBL, thawL]
    obtain ⟨h1, h2⟩ := thawR_ok (x := x) (Q := fun x => (thawRL h xs).holds fun ys => Q (x :: ys)) H
    obtain ⟨h3, h4⟩ := thawRL_ok (xs := xs) (Q := fun ys => Q (thaw h x :: ys)) h2
    rw [h1, cond_true]
    exact ⟨h3, h4⟩
end
/-- the tree of a function that hands on rows of its own -/
def treeR (sp : Spec) (args : List AV) : RT AV := (sp args hp0).bind fun x => thawR x.2 x.1
theorem pureS_row {P : Program} {f : FuncId} {sp : Spec} (hs : SoundF P f sp) {F : List AV → RT AV} (hF : ∀ args K, okL args → (F args).holds K → ∃ args', (∀ E vs, RelL E args vs → RelL E args' vs) ∧ (treeR sp args').holds fun r => ∃ y, Le r y ∧ K y) : SoundF P f (pureS P f F) := by
  intro args h K H w0 G E w vals I hr
  unfold pureS at H
  rw [RT.holds_bind] at H
  obtain ⟨args', hle, h1⟩ := hF _ _ (ok_relL _ _ (args0_rel hr)) H
  unfold treeR at h1
  rw [RT.holds_bind] at h1
  have I2 := (I.ren (os := []) (ks := []) (g0 := 0) .nil .nil (by simp) 0).top
  have hr2 := ren_relL (os := []) (ks := []) (g0 := 0) I _ _ hr
  rw [ren_stripL] at hr2
  refine (hs _ _ _ h1 w _ _ w vals I2 (hle _ _ (nilAs_rel _ _ _ (dull_relL _ _ hr2)))).mono ?_
  rintro e w' ⟨r, h', v, E', hK, rfl, S, hv⟩
  have hno : ∀ b, ¬ (E.ren [] [] 0).mine b := by
    rintro b (⟨o, ⟨p, hp, _⟩, _⟩ | ⟨k, hk, _⟩)
    · simp at hp
    · simp [Env.ren] at hk
  have hbel : Below w.heap.size w w' := S.inv.kpt.below fun k hk => absurd hk (hno k)
  have S3 := I.fresh hbel
  obtain ⟨hb, y, hy, hK⟩ := thawR_ok hK
  have hv3 : Rel (E.fresh w w') (thaw h' r) v := by
    refine thaw_rel (E := E') (Zf := (E.fresh w w').Z) rfl (fun b j u hz => ?_) (fun o ho k u hu => ?_) S.inv r v hv hb
    · show (if b < w.heap.size then E.Z b j else w'.cell? ⟨b, j, none⟩) = some u
      by_cases hlt : b < w.heap.size
      · rw [if_pos hlt]
        rcases S.zn b j u hz with h | h | h
        · exact h
        · omega
        · exact absurd h (hno b)
      · rw [if_neg hlt]; exact S.inv.z b j u hz
    · show (if E'.β o < w.heap.size then E.Z (E'.β o) k else w'.cell? ⟨E'.β o, k, none⟩) = some u
      rcases S.inv.own o ho with h | h
      · rw [if_neg (by omega)]; exact hu
      · exact absurd h (hno _)
  refine ⟨_, h, v, _, hK, rfl, S3, ?_⟩
  cases allKL args
  · exact hy _ _ hv3
  · exact know_rel _ _ (hy _ _ hv3)
theorem pure_row {P : Program} {gs : List (FuncId × Spec)} {ls : List (FuncId × Nat × BSpec)} (hm : Fit P) (hΓ : GamL P gs) (hΛ : LamL P ls) (f n : Nat) {F : List AV → RT AV} (hF : ∀ args K, okL args → (F args).holds K → (treeR (evF P (gam gs) (lam ls) n f) args).holds fun r => ∃ y, Le r y ∧ K y) : SoundF P f (pureS P f F) :=
  pureS_row (evF_ok hm (gam_ok hΓ) (lam_ok hΛ) n f) fun args K ho H => ⟨args, fun _ _ h => h, hF args K ho H⟩
/-- the same, whatever is answered where less is known -/
theorem rowOf_cons (o : Nat) (es : List Sh) (d : D) (h : Hp) : rowOf o { h with ob := (o, [.rw es d]) :: h.ob } = some (es, d) := by
  unfold rowOf
  rw [lookO_cons, if_pos rfl]
/-! A loop's rounds one by one, where that can be seen ahead. -/
def altB (c : Tm → Hp → Bool) (s1 s2 : BSpec) : BSpec := fun F h => bif c F h then s1 F h else s2 F h
theorem altB_ok {P : Program} {f : FuncId} {id : Nat} {c : Tm → Hp → Bool} {s1 s2 : BSpec} (h1 : LamE P f id s1) (h2 : LamE P f id s2) : LamE P f id (altB c s1 s2) := by
  intro fn b hp x hx F h K H
  unfold altB at H
  cases hc : c F h
  · rw [hc] at H; exact h2 fn b hp x hx F h K H
  · rw [hc] at H; exact h1 fn b hp x hx F h K H
def runB (P : Program) (gs : List (FuncId × Spec)) (n : Nat) (f : FuncId) (id : Nat) : BSpec := fun F h => evC P (gam gs) (lam []) n f (.block id (.loop (loopAt id (bodyOf P f)))) F h
theorem runB_ok {P : Program} {gs : List (FuncId × Spec)} (hm : Fit P) (hΓ : GamL P gs) (f id n : Nat) (hl : isLoop id (bodyOf P f) = true) : LamE P f id (runB P gs n f id) := by
  intro fn b hp c hc
  have hb : bodyOf P f = b := by unfold bodyOf; rw [hp]
  have hl' := hl
  rw [hb] at hl'
  rw [isLoop_ok hl'] at hc
  obtain rfl := List.mem_singleton.1 hc
  intro F h K H
  unfold runB at H
  rw [hb] at H
  exact (codeOk hm (gam_ok hΓ) (lam_ok (l := []) trivial) n).1 f _ F h K H (fun i sp hs => by cases hs)
/-- the temporary is a number that is known ahead -/
def knT (t : Nat) (F : Tm) (_ : Hp) : Bool := match look t F.tm with | .sc kn _ => kn | _ => false
end
end Go.Proofs.YtokiedeiamlnlaaGreat
