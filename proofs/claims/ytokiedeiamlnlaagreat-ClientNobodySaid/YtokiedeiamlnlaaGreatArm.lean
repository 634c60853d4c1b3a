/- Steps of a walk that change what is owned. No condition. -/
import Derived.Test.YtokiedeiamlnlaaGreatZon
namespace Go.Proofs.YtokiedeiamlnlaaGreat
set_option linter.unusedSimpArgs false
set_option linter.unusedVariables false
open Go.RowKit
set_option maxRecDepth 10000

def putAt (cs : List Value) (o : Nat) (new : List Value) : List Value := cs.take o ++ new ++ cs.drop (o + new.length)
theorem putAt_len {cs : List Value} {o : Nat} {new : List Value} (h : o + new.length ≤ cs.length) : (putAt cs o new).length = cs.length := by
  unfold putAt; simp only [List.length_append, List.length_take, List.length_drop]; omega

section
variable {P : Program} {ops : Array Oper} {Q : Exit → Act → World → Prop} {w0 w : World} {G z : Nat → Prop} {O : List As} {T : List Rd} {l rest : List Oper} {o : Oper} {a : Act}

theorem wl_absorb {cs : Array Value} {t : TypeId} (H : St w0 G z O T w) (h : ∀ W, St w0 G z (va w.heap.size cs.toList t :: O) T W → w.heap.size < W.heap.size → wpList P ops Q l a W) : wpList P ops Q l a (w.alloc (.cells cs t)) :=
  h _ (H.alloc cs.toList t) (by simp)
theorem cw_absorb {cs : Array Value} {t : TypeId} {c : Code} (H : St w0 G z O T w) (h : ∀ W, St w0 G z (va w.heap.size cs.toList t :: O) T W → w.heap.size < W.heap.size → c.wp P Q a W) : c.wp P Q a (w.alloc (.cells cs t)) :=
  h _ (H.alloc cs.toList t) (by simp)
theorem wl_drew (H : St w0 G z O T w) (h : ∀ W, St w0 G z O T W → w.heap.size ≤ W.heap.size → wpList P ops Q l a W) : wpList P ops Q l a w.drew := h _ (H.draw 1) (Nat.le_refl _)

theorem wl_drewN {n : Nat} (H : St w0 G z O T w) (h : ∀ W, St w0 G z O T W → w.heap.size ≤ W.heap.size → wpList P ops Q l a W) : wpList P ops Q l a (w.drewN n) := h _ (H.draw n) (Nat.le_refl _)
theorem cw_drewN {n : Nat} {c : Code} (H : St w0 G z O T w) (h : ∀ W, St w0 G z O T W → w.heap.size ≤ W.heap.size → c.wp P Q a W) : c.wp P Q a (w.drewN n) := h _ (H.draw n) (Nat.le_refl _)

theorem run_storeCells {t : TypeId} {B : Nat} : ∀ (new : List Value) (cs : List Value) (off i : Nat) (w : World), w.heap[B]? = some (.cells cs.toArray t (0, 0)) → off + i + new.length ≤ cs.length → (∀ u ∈ new, u.oneCell' = true) →
    ∃ w', (storeCells ⟨B, off, none⟩ new i).run P w = .ok () w' ∧ w'.heap[B]? = some (.cells (putAt cs (off + i) new).toArray t (0, 0)) ∧ Kpt w w' (fun b => b = B)
  | [], cs, off, i, w, hb, _, _ => ⟨w, rfl, by rw [hb]; simp [putAt], Kpt.refl _ _⟩
  | v :: new, cs, off, i, w, hb, hle, h1 => by
    have hv := h1 v List.mem_cons_self
    simp only [List.length_cons] at hle
    have hadd : (⟨B, off, none⟩ : Addr).add i = ⟨B, off + i, none⟩ := by unfold Addr.add; split <;> simp_all
    have hc : w.cell? ⟨B, off + i, none⟩ = some cs[off + i] := by rw [cell_of_row w B _ _ _ _ hb]; simp
    have hset : (w.setCell ⟨B, off + i, none⟩ v).heap[B]? = some (.cells (cs.set (off + i) v).toArray t (0, 0)) := by
      simp [World.setCell, Array.getElem?_modify, hb]
    obtain ⟨w', h2, h3, h4⟩ := run_storeCells new (cs.set (off + i) v) off (i + 1) (w.setCell ⟨B, off + i, none⟩ v) hset (by simp; omega) (fun u hu => h1 u (List.mem_cons_of_mem _ hu))
    refine ⟨w', ?_, ?_, ?_⟩
    · have hst : (store ((⟨B, off, none⟩ : Addr).add i) v).run P w = .ok () (w.setCell ⟨B, off + i, none⟩ v) := by
        rw [hadd]
        unfold store
        cases v <;> simp [Value.oneCell'] at hv <;> simp [Sem.run, hc, frozen_of_row w B _ _ _ hb]
      unfold storeCells
      simp only [Sem.run_bind, hst, Result.andThen_ok, h2]
    · rw [h3]
      congr 3
      unfold putAt
      rw [show off + (i + 1) = off + i + 1 by omega, List.take_add_one, List.take_set_of_le (by omega), List.getElem?_set_self (by omega), List.drop_set_of_lt (by omega)]
      simp only [List.length_cons, Option.toList_some, List.append_assoc, List.cons_append, List.nil_append]
      rw [show off + i + 1 + new.length = off + i + (new.length + 1) by omega]
    · refine ⟨h4.os.trans rfl, h4.tape.trans rfl, h4.output.trans rfl, Nat.le_trans (by simp [World.setCell]) h4.size, fun k hk hn => (h4.block k (by simpa [World.setCell] using hk) hn).trans ?_⟩
      exact Below.heap_setCell w _ v k hn
theorem St.put (H : St w0 G z O T w) (i : Nat) {B : Nat} {cs : List Value} {t : TypeId} (hO : O[i]? = some (va B cs t)) (off : Nat) (new : List Value) (hle : off + new.length ≤ cs.length) (h1 : ∀ u ∈ new, u.oneCell' = true) :
    ∃ W, (storeCells ⟨B, off, none⟩ new).run P w = .ok () W ∧ St w0 G z (O.set i (va B (putAt cs off new) t)) T W ∧ w.heap.size ≤ W.heap.size := by
  have hb : w.heap[B]? = some (.cells cs.toArray t (0, 0)) := H.has i hO
  obtain ⟨w', h2, h3, h4⟩ := run_storeCells (P := P) new cs off 0 w hb (by omega) h1
  refine ⟨w', h2, ?_, h4.size⟩
  have := H.upd i hO (va B (putAt cs off new) t) (w' := w') h4 h3 (fun b hb => .inl hb) [] (by simp)
  simpa using this
theorem exec_store_at {ev : Operand → Value} {ty : TypeId} {x y : Operand} {B off : Nat} {new : List Value} (ho : o.op = .store ty x y) (hx : ev x = .pointer (some ⟨B, off, none⟩)) (hn : (ev y).cells.toList = new) (hsz : (P.info? ty).map (·.size) = some new.length)
    {W : World} (h : (storeCells ⟨B, off, none⟩ new).run P w = .ok () W) : (execOp ev o).run P w = .ok .skip W := by
  obtain ⟨i, hi1, hi2⟩ : ∃ i, P.info? ty = some i ∧ i.size = new.length := by
    cases h : P.info? ty with
    | none => simp [h] at hsz
    | some i => simp [h] at hsz; exact ⟨i, rfl, hsz⟩
  have hs : (ev y).cells.size = new.length := by rw [← hn]; simp
  unfold execOp
  simp [ho, hx, Instr.storeAt, Instr.sureAddr, storeVar, sizeOf, typeInfo, hi1, hi2, hs, hn, h]
/-- a store into a variable -/
theorem wl_store (H : St w0 G z O T w) (i : Nat) {B : Nat} {cs : List Value} {t : TypeId} (hO : O[i]? = some (va B cs t)) {ty : TypeId} {x y : Operand} (ho : o.op = .store ty x y) {off : Nat} (hx : a.eval x = .pointer (some ⟨B, off, none⟩)) (hw : Region.wanted o (yielded ops a.tmps) = true)
    {new : List Value} (hn : (a.eval y).cells.toList = new) (hsz : (P.info? ty).map (·.size) = some new.length) (hle : off + new.length ≤ cs.length) (h1 : ∀ u ∈ new, u.oneCell' = true)
    (h : ∀ W, St w0 G z (O.set i (va B (putAt cs off new) t)) T W → w.heap.size ≤ W.heap.size → wpList P ops Q rest (a.put o.dst undef) W) : wpList P ops Q (o :: rest) a w := by
  obtain ⟨W, h2, h3, h4⟩ := H.put (P := P) i hO off new hle h1
  refine BigFrame.wpList_want hw fun K hK => ?_
  unfold Oper.wp
  rw [exec_store_at ho hx hn hsz h2, Oper.upon_skip]
  exact hK _ _ (h W h3 h4)

/-- an append to what is owned -/
theorem run_append_vec {t e size bytes : Nat} {zv : Value} (hE : ElemOf P t e size bytes zv) {ty : TypeId} {v : Value} {n : Nat} {xs : List Value} (hown : w.ownsRow 0 e size v n xs) {src : Value} {m : Nat} {news : List Value} (hsrc : SrcOf w size src m news)
    (hbytes : (n + m) * bytes ≤ 140737488355328) :
    ∃ v' w', (Builtin.append_ #[t, t] ty #[v, src]).run P w = .ok v' w' ∧ w'.ownsRow 0 e size v' (n + m) (xs ++ news) ∧ w.grownBy w' v.ownBlock ∧ (v'.ownBlock = v.ownBlock ∨ v'.ownBlock = some w.heap.size) := by
  obtain ⟨ht, ⟨i, hi, hz, hsize, hby⟩, hzs, hpos, hone⟩ := hE
  have h63 : n + m ≤ maxLen := by
    have := Nat.le_trans (Nat.le_mul_of_pos_right (n + m) hone) hbytes
    unfold maxLen; omega
  rcases hsrc with ⟨rfl, rfl, rfl⟩ | ⟨ad, c, rfl, hl, hnews, h1⟩
  · exact ⟨v, w, run_append_owned_none (P := P) w 0 t ty e i size ht hi v n xs hown, by simpa using hown, ⟨rfl, rfl, rfl, Nat.le_refl _, fun _ _ _ => rfl⟩, .inl rfl⟩
  · obtain ⟨v', w', h2, h3, h4, _, h5⟩ := run_append_own_at (P := P) (w := w) 0 t ty e i zv size bytes ht hi hz hsize hby hzs hpos v n xs hown ad m c news hl hnews h1 h63 hbytes (Nat.zero_le _)
    exact ⟨v', w', h2, h3, h4, h5⟩
theorem St.app (H : St w0 G z O T w) (i : Nat) {t e size bytes : Nat} {zv : Value} (hE : ElemOf P t e size bytes zv) {ty : TypeId} {v : Value} {n : Nat} {xs : List Value} (hO : O[i]? = some (vec e size v n xs)) {src : Value} {m : Nat} {news : List Value} (hsrc : SrcOf w size src m news)
    (hbytes : (n + m) * bytes ≤ 140737488355328) :
    ∃ v' W, (Builtin.append_ #[t, t] ty #[v, src]).run P w = .ok v' W ∧ St w0 G z (O.set i (vec e size v' (n + m) (xs ++ news))) T W ∧ w.heap.size ≤ W.heap.size := by
  obtain ⟨v', W, h1, h2, h3, h4⟩ := run_append_vec (ty := ty) hE (H.has i hO) hsrc hbytes
  refine ⟨v', W, h1, ?_, h3.size⟩
  have := H.upd i hO (vec e size v' (n + m) (xs ++ news)) (w' := W) ⟨h3.os, h3.tape, h3.output, h3.size, fun k hk hn => h3.block k hk (fun e => hn e.symm)⟩ h2 (fun b hb => ?_) [] (by simp)
  · simpa using this
  · rcases h4 with h | h
    · exact .inl (by show v.ownBlock = some b; rw [← h]; exact hb)
    · have hb' : v'.ownBlock = some b := hb
      rw [h] at hb'; cases hb'; exact .inr (Nat.le_refl _)
theorem wl_append (H : St w0 G z O T w) (i : Nat) {t e size bytes : Nat} {zv : Value} {v : Value} {n : Nat} {xs : List Value} (hO : O[i]? = some (vec e size v n xs)) (hE : ElemOf P t e size bytes zv) {s x : Operand} (ho : o.op = .call { callee := .builtin .append, args := #[s, x], argTypes := #[t, t] })
    (hs : a.eval s = v) (hw : Region.wanted o (yielded ops a.tmps) = true) {src : Value} {m : Nat} {news : List Value} (hx : a.eval x = src) (hsrc : SrcOf w size src m news) (hbytes : (n + m) * bytes ≤ 140737488355328)
    (h : ∀ v' W, St w0 G z (O.set i (vec e size v' (n + m) (xs ++ news))) T W → w.heap.size ≤ W.heap.size → wpList P ops Q rest (a.put o.dst v') W) : wpList P ops Q (o :: rest) a w := by
  obtain ⟨v', W, h1, h2, h3⟩ := H.app (P := P) (ty := o.type) i hE hO hsrc hbytes
  refine BigFrame.wpList_want hw fun K hK => ?_
  unfold Oper.wp
  have hr : (execOp a.eval o).run P w = .ok (.value v') W := by
    simp [execOp, ho, resolve, invoke, builtin, hs, hx, h1, Result.andThen]
  rw [hr, Oper.upon_value]
  exact hK _ _ (h v' W h2 h3)
/-- nothing yet -/
theorem St.empty (H : St w0 G z O T w) (e size : Nat) : St w0 G z (vec e size (.slice none 0 0) 0 [] :: O) T w := by
  have := H.grow [vec e size (.slice none 0 0) 0 []] [] (Below.refl _ _) (by simp only [List.mem_singleton, forall_eq]; exact ⟨by simp, .inl ⟨rfl, rfl⟩⟩) (by simp only [List.mem_singleton, forall_eq]; rintro b h; cases h) (List.pairwise_singleton _ _) (by simp)
  simpa using this

theorem flat_get {α : Type} {n : Nat} {f : α → List Value} (hf : ∀ x, (f x).length = n) (hn : 0 < n) : ∀ (l : List α) (j : Nat) (u : Value), (l.map f).flatten[j]? = some u → ∃ x, l[j / n]? = some x ∧ (f x)[j % n]? = some u
  | [], j, u, h => by simp at h
  | x :: l, j, u, h => by
    simp only [List.map_cons, List.flatten_cons] at h
    by_cases hj : j < n
    · rw [List.getElem?_append_left (by rw [hf]; exact hj)] at h
      exact ⟨x, by rw [Nat.div_eq_of_lt hj]; rfl, by rw [Nat.mod_eq_of_lt hj]; exact h⟩
    · rw [List.getElem?_append_right (by rw [hf]; omega), hf] at h
      obtain ⟨y, h1, h2⟩ := flat_get hf hn l (j - n) u h
      have e : j = j - n + n := by omega
      refine ⟨y, ?_, ?_⟩
      · rw [e, Nat.add_div_right _ hn]; exact h1
      · rw [e, Nat.add_mod_right]; exact h2
theorem flat_len {α : Type} {n : Nat} {f : α → List Value} (hf : ∀ x, (f x).length = n) (l : List α) : (l.map f).flatten.length = l.length * n := by
  induction l with
  | nil => simp
  | cons x l ih => simp only [List.map_cons, List.flatten_cons, List.length_append, hf, ih, List.length_cons, Nat.add_mul]; omega
/-- a slice that is read, as the source of an append -/
theorem SlZ.src {α : Type} {r : Rdr α} {v : Value} {l : List α} (h : SlZ r z w v l) (hn : 0 < r.n) {f : α → List Value} (hf : ∀ {z w cs x}, r.R z w cs x → cs = f x) (hl : ∀ x, (f x).length = r.n) (h1 : ∀ x, ∀ u ∈ f x, u.oneCell' = true) : SrcOf w r.n v l.length (l.map f).flatten := by
  obtain ⟨ad, cap, rfl, h2, h3, h4, h5⟩ := h
  by_cases e : l = []
  · subst e
    cases ad with
    | none => have := h4 rfl; subst this; exact .inl ⟨rfl, rfl, rfl⟩
    | some ad => exact .inr ⟨ad, cap, rfl, by simp, by simp, by simp⟩
  · obtain ⟨b, o, rfl, hz, hr⟩ := h5 e
    refine .inr ⟨⟨b, o, none⟩, cap, rfl, flat_len hl l, fun j u hu => ?_, fun u hu => ?_⟩
    · obtain ⟨x, hx, hu'⟩ := flat_get hl hn l j u hu
      obtain ⟨cs, g1, g2⟩ := hr _ x hx
      have := hf g2
      subst this
      have hadd : (⟨b, o, none⟩ : Addr).add j = ⟨b, o + j, none⟩ := by unfold Addr.add; split <;> simp_all
      have := rng_at g1 _ _ hu'
      rw [hadd, show o + j = o + j / r.n * r.n + j % r.n by have := Nat.div_add_mod' j r.n; omega]
      exact this
    · obtain ⟨y, hy, hu⟩ := List.mem_flatten.1 hu
      obtain ⟨x, _, rfl⟩ := List.mem_map.1 hy
      exact h1 x u hu
/-- a block of one's own, as the source of an append -/
theorem src_va {w : World} {B : Nat} {cs : List Value} {t : TypeId} (h : (va B cs t).holds w) (size m c : Nat) (hl : cs.length = m * size) (h1 : ∀ u ∈ cs, u.oneCell' = true) : SrcOf w size (.slice (some ⟨B, 0, none⟩) m c) m cs := by
  have := src_block (w := w) size m c h (by simpa using hl) (by simpa using h1)
  simpa using this
theorem flat_at {α : Type} {n : Nat} {f : α → List Value} (hl : ∀ x, (f x).length = n) : ∀ (l : List α) (i : Nat) (x : α), l[i]? = some x → ((l.map f).flatten.drop (i * n)).take n = f x
  | [], i, x, h => by simp at h
  | y :: l, 0, x, h => by
    simp only [List.getElem?_cons_zero, Option.some.injEq] at h
    subst h
    simp only [Nat.zero_mul, List.drop_zero, List.map_cons, List.flatten_cons]
    rw [List.take_append_of_le_length (by rw [hl]; exact Nat.le_refl _), List.take_of_length_le (by rw [hl]; exact Nat.le_refl _)]
  | y :: l, i + 1, x, h => by
    simp only [List.getElem?_cons_succ] at h
    simp only [List.map_cons, List.flatten_cons]
    rw [Nat.succ_mul, List.drop_append, hl, List.drop_of_length_le (by rw [hl]; omega), List.nil_append, show i * n + n - n = i * n by omega]
    exact flat_at hl l i x h
/-- what was put together is read -/
theorem slz_vec {α : Type} {r : Rdr α} {e : TypeId} {v : Value} {l : List α} {f : α → List Value} {n : Nat} (h : w.ownsRow 0 e r.n v n (l.map f).flatten) (hl : ∀ x, (f x).length = r.n) (hn : 0 < r.n) (hz : ∀ b, v.ownBlock = some b → z b) (hf : ∀ x ∈ l, r.R z w (f x) x) : SlZ r z w v l := by
  have hln : n = l.length := by
    have := h.1; rw [flat_len hl] at this; exact (Nat.eq_of_mul_eq_mul_right hn this).symm
  subst hln
  rcases h.2 with ⟨rfl, h0⟩ | ⟨g, cap, cur, rfl, -, hg, hnc, hcm, hcs, htk⟩
  · rw [List.eq_nil_of_length_eq_zero h0]; exact SlZ.nil r z w
  · refine ⟨_, cap, rfl, hnc, hcm, (by intro h; cases h), fun _ => ⟨g, 0, rfl, hz g rfl, fun i x hx => ⟨f x, ?_, hf x (List.mem_of_getElem? hx)⟩⟩⟩
    have hi := (List.getElem?_eq_some_iff.1 hx).1
    have hle : i * r.n + r.n ≤ l.length * r.n := by rw [← Nat.succ_mul]; exact Nat.mul_le_mul_right _ hi
    have hle2 : l.length * r.n ≤ cap * r.n := Nat.mul_le_mul_right _ hnc
    unfold rng
    rw [hg]
    simp only [Nat.zero_add]
    rw [if_pos (by rw [hcs]; omega)]
    congr 1
    have : (cur.toList.drop (i * r.n)).take r.n = ((l.map f).flatten.drop (i * r.n)).take r.n := by
      rw [← htk, List.drop_take, List.take_take, Nat.min_eq_left (by omega)]
    rw [this]
    exact flat_at hl l i x hx
theorem run_loadVar_va {B : Nat} {cs : List Value} {t ty : TypeId} {n : Nat} (h : (va B cs t).holds w) (R : RowOf P ty n) (hn : cs.length = n) : (loadVar ty ⟨B, 0, none⟩).run P w = .ok (.agg cs.toArray) w := by
  obtain ⟨d, hu, hd⟩ : ∃ d, P.underlying ty = some d ∧ d.isRow = true := by
    have := R.und
    cases h : P.underlying ty with
    | none => simp [h] at this
    | some d => simp [h] at this; exact ⟨d, rfl, this⟩
  refine run_loadVar_mid w B 0 ty cs d (fun j v hv => ?_) hu hd (by rw [R.size, hn])
  have hb : w.heap[B]? = some (.cells cs.toArray t (0, 0)) := h
  rw [Nat.zero_add, cell_of_row w B j _ _ _ hb]; simpa using hv
theorem results_cell' {fn : Func} {p : Tmp} {ty : TypeId} (h : fn.results = #[.cell p ty]) (tmps : Array Value) (P : Program) (w : World) :
    (results fn tmps).run P w = ((asAddr (tmps.getD p undef)).run P w).andThen fun a w₁ => ((loadVar ty a).run P w₁).andThen fun v w₂ => .ok v w₂ := by
  simp [results, h]
  congr 1
  funext a w1
  cases (loadVar ty a).run P w1 <;> rfl
theorem ret_ct {fn : Func} {tmps : Array Value} {p q ty n : Nat} {B : Nat} {cs : List Value} {t : TypeId} {v : Value} (h : fn.results = #[.cell p ty, .tmp q]) (hp : tmps.getD p undef = .pointer (some ⟨B, 0, none⟩)) (hq : tmps.getD q undef = v) (hv : (va B cs t).holds w) (R : RowOf P ty n) (hn : cs.length = n) :
    (results fn tmps).run P w = .ok (.tuple #[.agg cs.toArray, v]) w := by
  rw [results_cell_tmp h, hp, hq]
  simp only [asAddr, Sem.run_pure, Result.andThen_ok, run_loadVar_va hv R hn]
theorem ret_c {fn : Func} {tmps : Array Value} {p ty n : Nat} {B : Nat} {cs : List Value} {t : TypeId} (h : fn.results = #[.cell p ty]) (hp : tmps.getD p undef = .pointer (some ⟨B, 0, none⟩)) (hv : (va B cs t).holds w) (R : RowOf P ty n) (hn : cs.length = n) :
    (results fn tmps).run P w = .ok (.agg cs.toArray) w := by
  rw [results_cell' h, hp]
  simp only [asAddr, Sem.run_pure, Result.andThen_ok, run_loadVar_va hv R hn]
theorem St.end_vec {e size n : Nat} {v : Value} {xs : List Value} (H : St w0 (fun _ => False) z (vec e size v n xs :: O) T w) : Below w0.heap.size w0 w ∧ w.ownsRow 0 e size v n xs ∧ ∀ b, v.ownBlock = some b → w0.heap.size ≤ b :=
  ⟨H.below', H.has 0 rfl, fun b hb => (H.new _ List.mem_cons_self b hb).resolve_right id⟩
theorem St.end_slz {α : Type} {r : Rdr α} {f : α → List Value} {e n : Nat} {v : Value} {l : List α} (H : St w0 (fun _ => False) z O T w) (i : Nat) (hO : O[i]? = some (vec e r.n v n (l.map f).flatten)) (hl : ∀ x, (f x).length = r.n) (hn : 0 < r.n) (hf : ∀ {z w x}, r.R z w (f x) x) : SlZ r (Fresh z w0 w) w v l :=
  slz_vec (H.has i hO) hl hn (fun b hb => .inr ⟨(H.new _ (List.mem_of_getElem? hO) b hb).resolve_right id, H.lt (List.mem_of_getElem? hO) hb⟩) (fun x _ => hf)
theorem own_slz {α : Type} {r : Rdr α} {f : α → List Value} {e n : Nat} {v : Value} {l : List α} {w w' : World} (h : w'.ownsRow w.heap.size e r.n v n (l.map f).flatten) (hl : ∀ x, (f x).length = r.n) (hn : 0 < r.n) (hf : ∀ {z w x}, r.R z w (f x) x) : SlZ r (Fresh z w w') w' v l := by
  have h0 : w'.ownsRow 0 e r.n v n (l.map f).flatten := ⟨h.1, h.2.imp_right (by rintro ⟨g, cap, cur, h1, h2, h3⟩; exact ⟨g, cap, cur, h1, Nat.zero_le _, h3⟩)⟩
  exact slz_vec h0 hl hn (fun b hb => .inr (h.lt b hb)) (fun x _ => hf)
theorem rng_sub {w : World} {b o n : Nat} {cs : List Value} (h : rng w b o n = some cs) (k m : Nat) (hk : k + m ≤ n) : rng w b (o + k) m = some ((cs.drop k).take m) := by
  unfold rng at h ⊢
  split at h
  · rename_i c t fr hb
    split at h
    · rename_i hle
      cases h
      simp only [show o + k + m ≤ c.size by omega, if_true, Option.some.injEq]
      rw [List.drop_take, List.drop_drop, List.take_take, Nat.min_eq_left (by omega)]
    · cases h
  · cases h
theorem ints_flat (l : List Int) : (l.map fun n => [Value.int .i64 n]).flatten = l.map (Value.int .i64) := by
  induction l with
  | nil => rfl
  | cons x l ih => simp [ih]
/-- the facts of a state, as one rule -/
theorem fxx : (∀ {w : World} {B : Nat} {cs : List Value} {t : TypeId} {l : List As}, Facts (va B cs t :: l) w = ((∀ k, w.cell? ⟨B, k, none⟩ = cs[k]?) ∧ (∀ k, w.frozen? ⟨B, k, none⟩ = false) ∧ (∀ o n, rng w B o n = if o + n ≤ cs.length then some ((cs.drop o).take n) else none) ∧ Facts l w)) ∧
    (∀ {w : World} {e size : Nat} {v : Value} {n : Nat} {xs : List Value} {l : List As}, Facts (vec e size v n xs :: l) w = Facts l w) ∧ (∀ {w : World}, FactsT [] w = True) ∧ (∀ {w : World}, Facts [] w = True) ∧
    (∀ {α : Type} {r : Rdr α} {cs : List Value} {a : α} {w : World} {l : List Rd}, FactsT (rd r cs a :: l) w = FactsT l w) ∧ (∀ {α : Type} {r : Rdr α} {v : Value} {a : List α} {w : World} {l : List Rd}, FactsT (rdS r v a :: l) w = FactsT l w) ∧
    (∀ {b o : Nat} {cs : List Value} {w : World} {l : List Rd}, FactsT (rdE b o cs :: l) w = (rng w b o cs.length = some cs ∧ CellsAt w b o 0 cs ∧ FactsT l w)) ∧
    (∀ {w : World} {b o i : Nat}, CellsAt w b o i [] = True) ∧ (∀ {w : World} {b o i : Nat} {v : Value} {cs : List Value}, CellsAt w b o i (v :: cs) = (w.cell? ⟨b, o + i, none⟩ = some v ∧ CellsAt w b o (i + 1) cs)) ∧
    (∀ (p : Prop), (p ∧ True) = p) ∧ (∀ (p : Prop), (True ∧ p) = p) ∧ (∀ {v : Value} {l : List Value}, (v :: l).length = l.length + 1) ∧ ([] : List Value).length = 0 ∧ (∀ (n : Nat), n + 0 = n) ∧ (∀ (n : Nat), 0 + n = n) ∧ (∀ (n : Nat), 0 * n = 0) ∧
    (∀ {α : Type} {x y : α} {l : List α}, (x :: l).set 0 y = y :: l) ∧ (∀ {α : Type} {x y : α} {l : List α} {i : Nat}, (x :: l).set (i + 1) y = x :: l.set i y) ∧
    1 + 1 = 2 ∧ 2 + 1 = 3 ∧ 3 + 1 = 4 ∧ 4 + 1 = 5 ∧ 5 + 1 = 6 ∧ 6 + 1 = 7 ∧ 7 + 1 = 8 ∧ 8 + 1 = 9 ∧ 9 + 1 = 10 ∧ 10 + 1 = 11 ∧ 11 + 1 = 12 ∧ 12 + 1 = 13 ∧ 13 + 1 = 14 ∧ 14 + 1 = 15 ∧ 15 + 1 = 16 :=
  ⟨facts_va, facts_vec, factsT_nil, facts_nil, factsT_rd, factsT_rdS, factsT_rdE, rfl, rfl, and_true, true_and, List.length_cons, List.length_nil, Nat.add_zero, Nat.zero_add, Nat.zero_mul, List.set_cons_zero, List.set_cons_succ, by decide⟩
theorem px : (∀ {cs : List Value} {o : Nat} {new : List Value}, putAt cs o new = cs.take o ++ new ++ cs.drop (o + new.length)) ∧ (∀ {v : Value} {l : List Value} {i : Nat}, (v :: l).take (i + 1) = v :: l.take i) ∧ (∀ {l : List Value}, l.take 0 = []) ∧
    (∀ {v : Value} {l : List Value} {i : Nat}, (v :: l).drop (i + 1) = l.drop i) ∧ (∀ {l : List Value}, l.drop 0 = l) ∧ (∀ {v : Value} {l m : List Value}, v :: l ++ m = v :: (l ++ m)) ∧ (∀ {l : List Value}, [] ++ l = l) ∧ (∀ {l : List Value}, l ++ [] = l) ∧
    (∀ {v : Value} {l : List Value}, (v :: l).length = l.length + 1) ∧ ([] : List Value).length = 0 ∧ (∀ (n : Nat), 0 + n = n) ∧ (∀ {α : Type} {x y : α} {l : List α}, (x :: l).set 0 y = y :: l) ∧ (∀ {α : Type} {x y : α} {l : List α} {i : Nat}, (x :: l).set (i + 1) y = x :: l.set i y) ∧
    1 + 1 = 2 ∧ 2 + 1 = 3 ∧ 3 + 1 = 4 ∧ 4 + 1 = 5 ∧ 5 + 1 = 6 ∧ 6 + 1 = 7 ∧ 7 + 1 = 8 ∧ 8 + 1 = 9 ∧ 9 + 1 = 10 ∧ 10 + 1 = 11 ∧ 11 + 1 = 12 ∧ 12 + 1 = 13 ∧ 13 + 1 = 14 ∧ 14 + 1 = 15 ∧ 15 + 1 = 16 :=
  ⟨rfl, List.take_succ_cons, List.take_zero, List.drop_succ_cons, List.drop_zero, List.cons_append, List.nil_append _, List.append_nil _, List.length_cons, List.length_nil, Nat.zero_add, List.set_cons_zero, List.set_cons_succ, by decide⟩
theorem pz : (∀ {t : Array Value} {ds : List Deferred} {i : Tmp} {v : Value}, Act.put ⟨t, ds⟩ (some i) v = ⟨t.setIfInBounds i v, ds⟩) ∧ (∀ {a : Act} {v : Value}, a.put none v = a) ∧ (∀ {l : List Value} {i : Nat} {v : Value}, l.toArray.setIfInBounds i v = (l.set i v).toArray) ∧ (∀ {α : Type} {x y : α} {l : List α}, (x :: l).set 0 y = y :: l) ∧ (∀ {α : Type} {x y : α} {l : List α} {i : Nat}, (x :: l).set (i + 1) y = x :: l.set i y) :=
  ⟨rfl, rfl, List.setIfInBounds_toArray .., List.set_cons_zero, List.set_cons_succ⟩
end
end Go.Proofs.YtokiedeiamlnlaaGreat
