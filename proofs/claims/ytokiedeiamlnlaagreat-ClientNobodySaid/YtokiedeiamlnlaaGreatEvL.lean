/- EvL: regions in which new variables come up at any time, all else in few orders. No condition. -/
import Derived.Test.YtokiedeiamlnlaaGreatEvP
namespace Go.Proofs.YtokiedeiamlnlaaGreat
set_option linter.unusedSimpArgs false
set_option linter.unusedVariables false
open Go.RowKit
set_option maxRecDepth 10000
noncomputable section
section
variable {P : Program} {w0 : World} {G : Nat → Prop} {Q : Exit → Act → World → Prop} {ops : Array Oper} {call : FuncId → Spec}
theorem asLate_ok {Λ : FuncId → Nat → Option BSpec} {f id : Nat} (h : asLate P Λ f id ops = true) : lateR P ops = true := by
  unfold asLate at h
  split at h
  · cases h
  · exact h
theorem allocF_alloc {o : Oper} (h : allocF P o = true) : isAllocO o = true ∧ (∀ e ∈ o.after, Region.binds .any e = false) ∧ ∃ e d cs, o.op = .alloc e ∧ o.dst = some d ∧ zeroA P e = some cs := by
  unfold allocF at h
  simp only [Bool.and_eq_true] at h
  obtain ⟨⟨h1, h2⟩, h3⟩ := h
  refine ⟨h1, fun e he => ?_, ?_⟩
  · cases hb : Region.binds .any e
    · rfl
    · have : o.after.any (fun e => Region.binds .any e) = true := Array.any_eq_true'.2 ⟨e, he, hb⟩
      rw [this] at h2; cases h2
  · unfold isAllocO at h1
    split at h1
    · rename_i e d h4 _ h5
      rw [h4] at h3
      obtain ⟨cs, hc⟩ := Option.isSome_iff_exists.1 h3
      exact ⟨_, _, cs, h4, h5, hc⟩
    · cases h1
theorem alloc_waits {o : Oper} (h : allocF P o = true) (i : Nat) : waits i o = false := by
  unfold waits
  rw [Array.any_eq_false']
  intro e he
  rw [(allocF_alloc h).2.1 e he]
  simp
theorem kept_alloc {i : Nat} {o : Oper} (ho : ops[i]? = some o) (h : allocF P o = true) (spr : SPrm) : kept ops i spr = spr := by
  unfold kept
  rw [List.filter_eq_self]
  intro p _
  unfold depends
  rw [ho]
  show (!waits p.1 o) = true
  rw [alloc_waits h]
  rfl
theorem keepP_alloc {o : Oper} (h : allocF P o = true) : ∀ pr : Prm, keepP o pr = pr
  | [] => rfl
  | p :: r => by unfold keepP; rw [alloc_waits h, cond_false, keepP_alloc h r]
theorem Met.keeps {E : Env} {h : Hp} {w : World} {pr : Prm} {spr : SPrm} (H : Met E h w pr spr) : keeps h pr = true := by
  induction H with
  | nil => rfl
  | pure _ _ _ _ ih => exact ih
  | load i b n T hl hc hz _ ih =>
    unfold Go.Proofs.YtokiedeiamlnlaaGreat.keeps
    rw [ih, hc]; simp
theorem calmL_zero {h : Hp} {e : TypeId} {cs : List AV} (hz : zeroA P e = some cs) : calmL h cs = cs := by
  have key : ∀ l : List Value, calmL h (l.map (.sc true)) = l.map (.sc true) := fun l => by
    induction l with
    | nil => rfl
    | cons x l ih => simp only [List.map_cons, calmL, ih]; rfl
  unfold zeroA at hz
  split at hz
  · rename_i z _
    unfold ofConst at hz
    split at hz
    · rename_i c _
      cases hb : c.toList.all Value.oneCell'
      · rw [hb] at hz; cases hz
      · rw [hb] at hz
        have : some (c.toList.map (AV.sc true)) = some cs := hz
        cases this
        exact key _
    · cases hz
    · have : some [AV.sc true z] = some cs := hz
      cases this
      exact key [z]
  · cases hz
theorem quiet_newA {E : Env} {h : Hp} {w : World} (I : Inv P w0 G E h w) (cs : List AV) : quietH h (newA cs h).2 = true := by
  unfold quietH
  rw [Bool.and_eq_true, List.all_eq_true, List.all_eq_true]
  refine ⟨fun o ho => ?_, fun k hk => ?_⟩
  · have : o ≠ h.nx := by have := List.mem_range.1 ho; omega
    simp only [ver, newA, cnt_cons, if_neg (fun e : h.nx = o => this e.symm)]
    simp
  · have := I.gn k (List.mem_range.1 hk)
    simp only [newA]
    rw [this]
    simp
theorem Held.stepN {E E2 : Env} {h h2 : Hp} {w w2 : World} (S : Stepd P w E.mine E h w E2 h2 w2) {cs : List AV} {b : Nat} {v : Value} (H : Held w0 G E w cs b v) : Held w0 G E2 w2 cs b v := by
  have hlt := H.lt
  refine ⟨H.ptr, ?_, H.own, fun o ho e => ?_, fun j => ?_, fun k hk e => ?_⟩
  · obtain ⟨vs, ob, g1, g2, g3⟩ := H.ob
    exact ⟨vs, ob, (S.inv.kpt.block b hlt H.not_mine).trans g1, RelL.mono S.ext _ _ g2, g3⟩
  · rcases S.inv.own o ho with h | h
    · omega
    · rw [e] at h; exact H.not_mine h
  · cases hz : E2.Z b j with
    | none => rfl
    | some u =>
      rcases S.zn b j u hz with h | h | h
      · rw [H.z j] at h; cases h
      · omega
      · exact absurd h H.not_mine
  · obtain ⟨_, _, _, _, _, _, g4⟩ := S.inv.vec k (by rw [← S.inv.m]; exact hk)
    rcases (g4 b e).1 with h | h
    · omega
    · exact H.not_mine h
theorem wpL_done {n : Nat} {listed : Array Bool} {spr : SPrm} {a : Act} {w : World} (h : Region.ready .any ops listed = []) (hq : Q .normal a w) : wpL P ops Q n listed spr a w := by
  cases n with
  | zero => exact ⟨h, hq⟩
  | succ n => exact ⟨fun _ => hq, by rw [h]; simp⟩
/-- what is empty stays so -/
def Still (dst : Option Nat) (F F' : Tm) : Prop := ∀ t, dst ≠ some t → look t F.tm = .any → look t F'.tm = .any
theorem putA_still {F F1 : Tm} (hs : ∀ t, look t F.tm = .any → look t F1.tm = .any) {dst : Option Nat} {av : AV} {h : Hp} {K : Tm × Hp → Prop} (H : ((putA F1 dst av).bind fun F => .ok (F, h) : RT (Tm × Hp)).holds K) :
    ((putA F1 dst av).bind fun F => .ok (F, h) : RT (Tm × Hp)).holds fun r => K r ∧ Still dst F r.1 := by
  rw [RT.holds_bind] at H ⊢
  unfold putA at H ⊢
  split at H
  · exact ⟨H, fun t _ h => hs t h⟩
  · rename_i d
    cases hb : Nat.blt d F1.nt
    · rw [hb] at H; exact H.elim
    · rw [hb] at H
      refine ⟨H, fun t ht h => ?_⟩
      simp only [look_cons]
      cases hd : Nat.beq d t
      · exact hs t h
      · exact absurd (by rw [Nat.eq_of_beq_eq_true hd]) ht
theorem setA_still {F : Tm} {d : Nat} {b kn b' : Bool} (hl : look d F.tm = .sc kn (.bool b')) (t : Nat) (h : look t F.tm = .any) : look t (setA F d b).tm = .any := by
  simp only [setA, look_cons]
  cases hd : Nat.beq d t
  · exact h
  · rw [← Nat.eq_of_beq_eq_true hd, hl] at h; cases h
theorem evStep_still {o : Oper} (hdf : ∀ F : Tm, deferA o F = none) {F : Tm} {h : Hp} {K : Tm × Hp → Prop} (H : (evStep P call ops o F h).holds K) : (evStep P call ops o F h).holds fun r => K r ∧ Still o.dst F r.1 := by
  have go : ∀ F1 : Tm, (∀ t, look t F.tm = .any → look t F1.tm = .any) → (match deferA o F1 with
      | some r => r.bind fun F => .ok (F, h)
      | none => (evOp P call o F1 h).bind fun r => (putA F1 o.dst r.1).bind fun F => .ok (F, r.2) : RT (Tm × Hp)).holds K → (match deferA o F1 with
      | some r => r.bind fun F => .ok (F, h)
      | none => (evOp P call o F1 h).bind fun r => (putA F1 o.dst r.1).bind fun F => .ok (F, r.2) : RT (Tm × Hp)).holds fun r => K r ∧ Still o.dst F r.1 := fun F1 hs H => by
    rw [hdf F1] at H ⊢
    simp only at H ⊢
    rw [RT.holds_bind] at H ⊢
    exact RT.holds_mono (fun r hr => putA_still hs hr) _ H
  unfold evStep guardA at H ⊢
  split at H
  · exact go F (fun _ h => h) H
  · split at H
    · exact H.elim
    · rename_i d hd
      split at H
      · rename_i kn b hl
        have h1 := fun b' t h => setA_still (b := b') hl t h
        cases kn <;> cases b <;> rename_i want _ _ _ <;> cases want <;> simp only [brk, cond_true, cond_false] at H ⊢
        all_goals first
          | exact go _ (h1 _) H
          | exact putA_still (h1 _) H
          | exact ⟨fun hb => go _ (h1 _) (H.1 hb), fun hb => putA_still (h1 _) (H.2 hb)⟩
          | exact ⟨fun hb => putA_still (h1 _) (H.1 hb), fun hb => go _ (h1 _) (H.2 hb)⟩
      · exact putA_still (fun _ h => h) H
      · exact H.elim
/-! What is read next. -/
theorem early_not {o : Oper} (h : earlyA P o = true) : allocF P o = false := by
  cases ha : allocF P o
  · rfl
  · obtain ⟨_, _, e, d, cs, h1, _, _⟩ := allocF_alloc ha
    unfold earlyA at h
    rw [h1] at h
    cases h
theorem pick_early {listed : Array Bool} {i : Nat} (h : pickL P ops listed = .early i) : i ∈ Region.ready .any ops listed ∧ Region.free .any ops listed i = true ∧ ∃ o, ops[i]? = some o ∧ earlyA P o = true := by
  unfold pickL at h
  split at h
  · rename_i j hf
    cases hfr : Region.free .any ops listed j
    · rw [hfr] at h; cases h
    · rw [hfr] at h
      cases h
      refine ⟨List.mem_of_find?_eq_some hf, hfr, ?_⟩
      have := List.find?_some hf
      split at this
      · rename_i o ho; exact ⟨o, ho, this⟩
      · cases this
  · split at h
    · split at h
      · split at h <;> cases h
      · cases h
    · split at h <;> cases h
    · rename_i k l _ _
      cases hb : (Nat.blt l.length 3 && (k :: l).all (noWait P ops listed))
      · rw [hb] at h; cases h
      · rw [hb] at h; cases h
theorem nextV_some {listed : Array Bool} {q : Option Oper} {i : Nat} (h : nextV P ops listed q = some i) : i < ops.size ∧ listed.getD i true = false ∧ isLA P ops i = true ∧ ∀ o, q = some o → waits i o = true := by
  unfold nextV at h
  have h1 := List.mem_range.1 (List.mem_of_find?_eq_some h)
  have h2 := List.find?_some h
  simp only [Bool.and_eq_true, Bool.not_eq_true'] at h2
  exact ⟨h1, h2.1.1, h2.1.2, fun o hq => by subst hq; exact h2.2⟩
theorem nextV_none {listed : Array Bool} {o : Oper} (h : nextV P ops listed (some o) = none) {i : Nat} (hi : i < ops.size) (hw : waits i o = true) (hl : isLA P ops i = true) : listed.getD i true = true := by
  unfold nextV at h
  have := List.find?_eq_none.1 h i (List.mem_range.2 hi)
  simp only [hl, hw, Bool.and_true, Bool.not_eq_true', Bool.not_eq_false] at this
  exact this
theorem pick_fresh {listed : Array Bool} {i : Nat} (h : pickL P ops listed = .fresh i) : i < ops.size ∧ listed.getD i true = false ∧ isLA P ops i = true ∧ ∀ k ∈ candL P ops listed, ∃ o, ops[k]? = some o ∧ waits i o = true := by
  unfold pickL at h
  split at h
  · rename_i j hf
    cases hfr : Region.free .any ops listed j <;> rw [hfr] at h <;> cases h
  · split at h
    · rename_i k hc
      split at h
      · rename_i o ho
        split at h
        · rename_i j hj
          cases h
          obtain ⟨h1, h2, h3, h4⟩ := nextV_some hj
          refine ⟨h1, h2, h3, fun q hq => ?_⟩
          rw [hc] at hq
          obtain rfl := List.mem_singleton.1 hq
          exact ⟨o, ho, h4 o rfl⟩
        · cases h
      · cases h
    · rename_i hc
      split at h
      · rename_i j hj
        cases h
        obtain ⟨h1, h2, h3, _⟩ := nextV_some hj
        exact ⟨h1, h2, h3, fun q hq => by rw [hc] at hq; cases hq⟩
      · cases h
    · rename_i k l _ _
      cases hb : (Nat.blt l.length 3 && (k :: l).all (noWait P ops listed))
      · rw [hb] at h; cases h
      · rw [hb] at h; cases h
theorem pick_other {listed : Array Bool} {k : Nat} {l : List Nat} (h : pickL P ops listed = .other k l) : candL P ops listed = k :: l ∧ ∀ j ∈ k :: l, ∃ o, ops[j]? = some o ∧ nextV P ops listed (some o) = none := by
  unfold pickL at h
  split at h
  · rename_i j hf
    cases hfr : Region.free .any ops listed j <;> rw [hfr] at h <;> cases h
  · split at h
    · rename_i q hc
      split at h
      · rename_i o ho
        split at h
        · cases h
        · rename_i hj
          cases h
          refine ⟨hc, fun j hj' => ?_⟩
          obtain rfl := List.mem_singleton.1 hj'
          exact ⟨o, ho, hj⟩
      · cases h
    · split at h <;> cases h
    · rename_i q r _ hc
      cases hb : (Nat.blt r.length 3 && (q :: r).all (noWait P ops listed))
      · rw [hb] at h; cases h
      · rw [hb] at h
        cases h
        refine ⟨hc, fun j hj => ?_⟩
        rw [Bool.and_eq_true] at hb
        have := List.all_eq_true.1 hb.2 j hj
        unfold noWait at this
        split at this
        · rename_i o ho; exact ⟨o, ho, by simpa using this⟩
        · cases this
theorem allR_holds {α : Type} {K : α → Prop} {f : Nat → RT α} : ∀ {k : Nat} {l : List Nat}, (allR (f k) (l.map f)).holds K → ∀ j ∈ k :: l, (f j).holds K
  | k, [], h, j, hj => by obtain rfl := List.mem_singleton.1 hj; exact h
  | k, q :: l, h, j, hj => by
    rcases List.mem_cons.1 hj with rfl | hj
    · exact h.1
    · exact allR_holds h.2 j hj
theorem unl_pos {listed : Array Bool} {k n : Nat} (hk : listed.getD k true = false) (hn : k < n) : 1 ≤ unl listed n := by
  have := unl_set hk n
  rw [if_pos hn] at this
  omega
theorem set_self (listed : Array Bool) (k : Nat) : (listed.setIfInBounds k true).getD k true = true := by
  rw [Array.getD_eq_getD_getElem?]
  rcases Nat.lt_or_ge k listed.size with h | h
  · rw [Array.getElem?_setIfInBounds_self_of_lt h]; rfl
  · rw [Array.getElem?_eq_none (by simpa using h)]; rfl
/-- how the new variables stand -/
structure InvL (P : Program) (w0 : World) (G : Nat → Prop) (ops : Array Oper) (listed listedC : Array Bool) (bl : Nat → Nat) (E : Env) (w : World) (a : Act) (F : Tm) : Prop where
  ls : listed.size = ops.size
  lc : listedC.size = ops.size
  sub : ∀ i, listed.getD i true = true → listedC.getD i true = true
  ext : ∀ i, listedC.getD i true = true → listed.getD i true = false → isLA P ops i = true
  held : ∀ i o e d, ops[i]? = some o → allocF P o = true → o.op = .alloc e → o.dst = some d → listedC.getD i true = true → listed.getD i true = false → ∃ cs, zeroA P e = some cs ∧ Held w0 G E w cs (bl i) (a.tmps.getD d undef)
  inj : ∀ i i', listedC.getD i true = true → listed.getD i true = false → listedC.getD i' true = true → listed.getD i' true = false → bl i = bl i' → i = i'
  any : ∀ i o d, ops[i]? = some o → allocF P o = true → o.dst = some d → listed.getD i true = false → look d F.tm = .any
  fit : ∀ (i : Nat) (o : Oper) (d : Nat), ops[i]? = some o → allocF P o = true → o.dst = some d → d < a.tmps.size
section
variable {listed listedC : Array Bool} {bl : Nat → Nat} {E : Env} {w : World} {a : Act} {F : Tm} {h : Hp}
theorem InvL.subF (I : InvL P w0 G ops listed listedC bl E w a F) {i : Nat} (hi : listed.getD i false = true) : listedC.getD i false = true := by
  have hlt : i < ops.size := by
    rcases Nat.lt_or_ge i listed.size with h | h
    · rw [← I.ls]; exact h
    · rw [Array.getD_eq_getD_getElem?, Array.getElem?_eq_none h] at hi; cases hi
  exact listed_lt I.lc hlt (I.sub i (getD_of_true hi true)) false
theorem InvL.unC (I : InvL P w0 G ops listed listedC bl E w a F) {i : Nat} (hi : listedC.getD i true = false) : listed.getD i true = false := by
  cases hl : listed.getD i true
  · rfl
  · rw [I.sub i hl] at hi; cases hi
theorem InvL.ready (I : InvL P w0 G ops listed listedC bl E w a F) {j : Nat} (hj : j ∈ Region.ready .any ops listedC) : isLA P ops j = true ∨ j ∈ candL P ops listed := by
  obtain ⟨hun, o, ho, hall⟩ := mem_ready.1 hj
  have hjs : j < ops.size := (Array.getElem?_eq_some_iff.1 ho).1
  cases ha : allocF P o
  · refine .inr (List.mem_filter.2 ⟨List.mem_range.2 hjs, ?_⟩)
    unfold candB
    rw [ho]
    simp only [I.unC hun, ha, Bool.not_false, Bool.true_and]
    rw [Array.all_eq_true']
    intro e he
    cases hb : Region.binds .any e
    · rfl
    · have h1 := hall e he hb
      simp only [Bool.not_true, Bool.false_or, Bool.or_eq_true]
      have hes : e.on < ops.size := by
        rcases Nat.lt_or_ge e.on listedC.size with h | h
        · rw [← I.lc]; exact h
        · rw [Array.getD_eq_getD_getElem?, Array.getElem?_eq_none h] at h1; cases h1
      cases hl : listed.getD e.on true
      · exact .inr (I.ext e.on (getD_of_true h1 true) hl)
      · exact .inl (listed_lt I.ls hes hl false)
  · exact .inl (by unfold isLA; rw [ho]; exact ha)
theorem alloc_eval {o : Oper} {e d : Nat} {cs : List AV} (ha : allocF P o = true) (hop : o.op = .alloc e) (hd : o.dst = some d) (hz : zeroA P e = some cs) (hnt : d < F.nt) :
    evStep P call ops o F h = .ok ({ F with tm := (d, .ptr h.nx 0) :: F.tm }, (newA cs h).2) := by
  have hg : o.guard = none := by
    have hao := (allocF_alloc ha).1
    unfold isAllocO at hao
    rw [hop, hd] at hao
    cases hg : o.guard with
    | none => rfl
    | some _ => rw [hg] at hao; cases hao
  unfold evStep guardA
  rw [hg]
  have hdf : deferA o F = none := by unfold deferA; rw [hop]
  simp only [hdf, evOp, hop, hz, hd]
  show ((putA F (some d) (newA cs h).1).bind fun F => .ok (F, (newA cs h).2) : RT (Tm × Hp)) = _
  unfold putA
  simp only
  rw [lt_blt hnt]
  rfl
/-- a new variable comes up ahead of its time -/
theorem alloc_conc (hcall : CallOk P call) {j : Nat} {o : Oper} (ho : ops[j]? = some o) (ha : allocF P o = true) {e d : Nat} {cs : List AV} (hop : o.op = .alloc e) (hd : o.dst = some d) (hz : zeroA P e = some cs) (I : Inv P w0 G E h w) (hT : RelT E F a)
    (hnt : d < a.tmps.size) (hany : look d F.tm = .any) {next : Act → World → Prop}
    (hn : ∀ E3 v w2 b, Stepd P w0 G E h w E3 h w2 → Held w0 G E3 w2 cs b ((a.put o.dst v).tmps.getD d undef) → w.heap.size ≤ b → (∀ cs b v, Held w0 G E w cs b v → Held w0 G E3 w2 cs b v) → RelT E3 F (a.put o.dst v) → next (a.put o.dst v) w2) :
    wpOp P ops Q j next a w := by
  have hsz : d < F.nt := by rw [← hT.sz]; exact hnt
  have hdf : ∀ F : Tm, deferA o F = none := fun F => by unfold deferA; rw [hop]
  have H : (evStep P call ops o F h).holds fun r => r = ({ F with tm := (d, .ptr h.nx 0) :: F.tm }, (newA cs h).2) := by rw [alloc_eval ha hop hd hz hsz]; rfl
  unfold wpOp
  rw [ho]
  refine evStepQ_ok hcall hdf H I.top hT fun F2 h2 E2 v w2 hk hs hT2 => ?_
  injection hk with hk1 hk2
  subst hk1
  subst hk2
  have hq := quiet_newA I cs
  have hv := hT2.tm d
  have hlk : look d ((d, AV.ptr h.nx 0) :: F.tm) = .ptr h.nx 0 := by simp [look_cons]
  rw [hlk] at hv
  have S3 := I.forget (hs.under I) hq
  obtain ⟨n1, n2⟩ := held_new I hs hq hv
  rw [calmL_zero hz] at n1
  refine hn _ v w2 _ S3 n1 n2 (fun cs b v H => H.step hs) ⟨put_size.trans hT.sz, fun t => ?_, by rw [put_defers]; exact hT.df.mono S3.ext⟩
  by_cases ht : t = d
  · subst ht; rw [hany]; trivial
  · rw [put_other (by rw [hd]; intro e; exact ht (Option.some.inj e).symm)]
    exact Rel.mono S3.ext _ _ (hT.tm t)
end
/-- **such a region, whatever its order** -/
theorem late_ok (hcall : CallOk P call) (hns : Region.noSelect ops = true) (hdf : ∀ (i : Nat) (o : Oper), ops[i]? = some o → ∀ F : Tm, deferA o F = none)
    (hdst : ∀ (i j : Nat) (oi oj : Oper) (d : Nat), ops[i]? = some oi → allocF P oi = true → oi.dst = some d → ops[j]? = some oj → j ≠ i → oj.dst ≠ some d)
    (hQ : ∀ d v c a w, Q (.panic c) (Act.put a d v) w → Q (.panic c) a w) {K : Tm × Hp → Prop} :
    ∀ (m n nC : Nat) {listed listedC : Array Bool} {pr : Prm} {spr : SPrm} {F : Tm} {h : Hp} {E : Env} {w : World} {a : Act} {bl : Nat → Nat}, n + nC ≤ m → (evLate P call ops n listed pr F h).holds K → Inv P w0 G E h w → RelT E F a → Met E h w pr spr →
      InvL P w0 G ops listed listedC bl E w a F → unl listedC ops.size ≤ nC → Cont P w0 G E h w K (Q .normal) → wpL P ops Q nC listedC spr a w := by
  intro m
  induction m with
  | zero =>
    intro n nC listed listedC pr spr F h E w a bl hm H I hT hM IL hu hn
    obtain rfl : n = 0 := by omega
    unfold evLate at H
    cases hall : (List.range ops.size).all (fun i => listed.getD i true)
    · rw [hall] at H; exact H.elim
    · rw [hall] at H
      refine wpL_done (List.eq_nil_iff_forall_not_mem.2 fun j hj => ?_) (hn _ _ _ _ _ H (Stepd.refl I) hT)
      obtain ⟨hun, o, ho, _⟩ := mem_ready.1 hj
      have := List.all_eq_true.1 hall j (List.mem_range.2 (Array.getElem?_eq_some_iff.1 ho).1)
      rw [IL.sub j this] at hun; cases hun
  | succ m ih =>
    intro n nC listed listedC pr spr F h E w a bl hm H I hT hM IL hu hn
    have fin : (List.range ops.size).all (fun i => listed.getD i true) = true → K (F, h) → wpL P ops Q nC listedC spr a w := fun hall hK => by
      refine wpL_done (List.eq_nil_iff_forall_not_mem.2 fun j hj => ?_) (hn _ _ _ _ _ hK (Stepd.refl I) hT)
      obtain ⟨hun, o, ho, _⟩ := mem_ready.1 hj
      have := List.all_eq_true.1 hall j (List.mem_range.2 (Array.getElem?_eq_some_iff.1 ho).1)
      rw [IL.sub j this] at hun; cases hun
    cases n with
    | zero =>
      unfold evLate at H
      cases hall : (List.range ops.size).all (fun i => listed.getD i true)
      · rw [hall] at H; exact H.elim
      · rw [hall] at H; exact fin hall H
    | succ n =>
      -- a new variable comes up
      have freshC : ∀ {nC' : Nat}, nC = nC' + 1 → ∀ j, j ∈ Region.ready .any ops listedC → isLA P ops j = true → wpOp P ops Q j (fun a' w' => (∀ p ∈ kept ops j spr, p.2 w') ∧ wpL P ops Q nC' (listedC.setIfInBounds j true) (kept ops j spr) a' w') a w := by
        intro nC' hnC j hj hla
        obtain ⟨hun, o, ho, _⟩ := mem_ready.1 hj
        have hjs : j < ops.size := (Array.getElem?_eq_some_iff.1 ho).1
        have ha : allocF P o = true := by unfold isLA at hla; rw [ho] at hla; exact hla
        obtain ⟨_, _, e, d, cs, hop, hd, hz⟩ := allocF_alloc ha
        have hunl := IL.unC hun
        refine alloc_conc hcall ho ha hop hd hz I hT (IL.fit j o d ho ha hd) (IL.any j o d ho ha hd hunl) fun E3 v w2 b S3 hH hb hold hT3 => ?_
        have hM' := hM.step ho S3 (by rw [keepP_alloc ha]; exact hM.keeps)
        rw [keepP_alloc ha] at hM'
        refine ⟨hM'.hold S3.inv, ?_⟩
        rw [kept_alloc ho ha] at hM' ⊢
        have hset : ∀ {i : Nat}, i ≠ j → (listedC.setIfInBounds j true).getD i true = listedC.getD i true := fun hne => getD_set_ne true (Ne.symm hne)
        have hcount := unl_set hun ops.size
        rw [if_pos hjs] at hcount
        refine ih (n + 1) nC' (bl := fun i => if i = j then b else bl i) (by omega) H S3.inv hT3 hM' ⟨IL.ls, by rw [Array.size_setIfInBounds]; exact IL.lc, fun i hi => ?_, fun i hi hi' => ?_, fun i oi ei di hoi hai hopi hdi hci hli => ?_, fun i i' h1 h2 h3 h4 heq => ?_, IL.any, fun i oi di hoi hai hdi => by rw [put_size]; exact IL.fit i oi di hoi hai hdi⟩ (by omega) (hn.step S3)
        · by_cases hij : i = j
          · subst hij; exact set_self _ _
          · rw [hset hij]; exact IL.sub i hi
        · by_cases hij : i = j
          · subst hij; exact hla
          · rw [hset hij] at hi; exact IL.ext i hi hi'
        · by_cases hij : i = j
          · subst hij
            obtain rfl : oi = o := Option.some.inj (hoi.symm.trans ho)
            rw [hop] at hopi; cases hopi
            rw [hd] at hdi; cases hdi
            exact ⟨cs, hz, by rw [if_pos rfl]; exact hH⟩
          · rw [hset hij] at hci
            obtain ⟨cs', hz', hH'⟩ := IL.held i oi ei di hoi hai hopi hdi hci hli
            rw [if_neg hij, put_other (hdst i j oi o di hoi hai hdi ho (Ne.symm hij))]
            exact ⟨cs', hz', hold _ _ _ hH'⟩
        · have far : ∀ i, i ≠ j → listedC.getD i true = true → listed.getD i true = false → bl i ≠ b := fun i hij hci hli he => by
            have hla' := IL.ext i hci hli
            unfold isLA at hla'
            split at hla'
            · rename_i oi hoi
              obtain ⟨_, _, ei, di, csi, hopi, hdi, _⟩ := allocF_alloc hla'
              obtain ⟨_, _, hH'⟩ := IL.held i oi ei di hoi hla' hopi hdi hci hli
              have := hH'.lt
              omega
            · cases hla'
          by_cases e1 : i = j <;> by_cases e2 : i' = j
          · rw [e1, e2]
          · rw [if_pos e1, if_neg e2] at heq
            rw [hset e2] at h3
            exact absurd heq.symm (far i' e2 h3 h4)
          · rw [if_neg e1, if_pos e2] at heq
            rw [hset e1] at h1
            exact absurd heq (far i e1 h1 h2)
          · rw [if_neg e1, if_neg e2] at heq
            rw [hset e1] at h1
            rw [hset e2] at h3
            exact IL.inj i i' h1 h2 h3 h4 heq
      unfold evLate at H
      cases hp : pickL P ops listed with
      | no => rw [hp] at H; exact H.elim
      | done =>
        rw [hp] at H
        simp only at H
        cases hall : (List.range ops.size).all (fun i => listed.getD i true)
        · rw [hall] at H; exact H.elim
        · rw [hall] at H; exact fin hall H
      | early i =>
        rw [hp] at H
        simp only at H
        obtain ⟨hir, hfr, o, ho, he⟩ := pick_early hp
        rw [ho] at H
        simp only at H
        obtain ⟨hun, o', ho', hall⟩ := mem_ready.1 hir
        obtain rfl : o' = o := Option.some.inj (ho'.symm.trans ho)
        have his : i < ops.size := (Array.getElem?_eq_some_iff.1 ho).1
        have hna := early_not he
        have hunC : listedC.getD i true = false := by
          cases hl : listedC.getD i true
          · rfl
          · have := IL.ext i hl hun
            unfold isLA at this
            rw [ho] at this
            simp only [hna] at this
            cases this
        have hirC : i ∈ Region.ready .any ops listedC := mem_ready.2 ⟨hunC, o', ho, fun e he hb => IL.subF (hall e he hb)⟩
        obtain ⟨nC', rfl⟩ : ∃ q, nC = q + 1 := ⟨nC - 1, by have := unl_pos hunC his; omega⟩
        rw [RT.holds_bind] at H
        obtain ⟨F', v, ⟨k1, kst⟩, k2, k3⟩ := evStepEarly_ok he (evStep_still (hdf i o' ho) H) I hT
        have hM' := met_promise (i := i) (o := o') hT hM
        have hself : SeesO E F o' w w := seesO_self I o'
        have hcount := unl_set hunC ops.size
        rw [if_pos his] at hcount
        have hset : ∀ {L : Array Bool} {q : Nat}, q ≠ i → (L.setIfInBounds i true).getD q true = L.getD q true := fun hne => getD_set_ne true (Ne.symm hne)
        have hno : ∀ q oq dq, ops[q]? = some oq → allocF P oq = true → oq.dst = some dq → o'.dst ≠ some dq := fun q oq dq h1 h2 h3 => hdst q i oq o' dq h1 h2 h3 ho fun e => by
          subst e
          obtain rfl : oq = o' := Option.some.inj (h1.symm.trans ho)
          rw [hna] at h2; cases h2
        refine wpL_first ho (Region.noSelect_spec hns) (hQ _ _) nC' listedC spr a w (fun j oj hoj hne hunj hd => Region.free_spec ho hfr j oj hoj hne (IL.unC hunj) hd) hirC k3 hself (hM.hold I)
          (ih n nC' (bl := bl) (by omega) k1 I k2 hM' ⟨by rw [Array.size_setIfInBounds]; exact IL.ls, by rw [Array.size_setIfInBounds]; exact IL.lc, fun q hq => ?_, fun q hq hq' => ?_, fun q oq eq dq hoq haq hopq hdq hcq hlq => ?_, fun q q' h1 h2 h3 h4 heq => ?_, fun q oq dq hoq haq hdq hlq => ?_, fun q oq dq hoq haq hdq => by rw [put_size]; exact IL.fit q oq dq hoq haq hdq⟩ (by omega) hn)
        · by_cases e : q = i
          · subst e; exact set_self _ _
          · rw [hset e] at hq ⊢; exact IL.sub q hq
        · have e : q ≠ i := fun e => by subst e; rw [set_self] at hq'; cases hq'
          rw [hset e] at hq hq'; exact IL.ext q hq hq'
        · have e : q ≠ i := fun e => by subst e; rw [set_self] at hlq; cases hlq
          rw [hset e] at hcq hlq
          rw [put_other (hno q oq dq hoq haq hdq)]
          exact IL.held q oq eq dq hoq haq hopq hdq hcq hlq
        · have e : q ≠ i := fun e => by subst e; rw [set_self] at h2; cases h2
          have e' : q' ≠ i := fun e => by subst e; rw [set_self] at h4; cases h4
          rw [hset e] at h1 h2
          rw [hset e'] at h3 h4
          exact IL.inj q q' h1 h2 h3 h4 heq
        · have e : q ≠ i := fun e => by subst e; rw [set_self] at hlq; cases hlq
          rw [hset e] at hlq
          exact kst dq (hno q oq dq hoq haq hdq) (IL.any q oq dq hoq haq hdq hlq)
      | fresh i =>
        rw [hp] at H
        simp only at H
        obtain ⟨his, hun, hla, hcand⟩ := pick_fresh hp
        obtain ⟨o, ho⟩ : ∃ o, ops[i]? = some o := ⟨_, Array.getElem?_eq_getElem his⟩
        have ha : allocF P o = true := by unfold isLA at hla; rw [ho] at hla; exact hla
        obtain ⟨_, hnob, e, d, cs, hop, hd, hz⟩ := allocF_alloc ha
        have hset : ∀ {q : Nat}, q ≠ i → (listed.setIfInBounds i true).getD q true = listed.getD q true := fun hne => getD_set_ne true (Ne.symm hne)
        cases hc : listedC.getD i true
        · -- it did not come up yet
          have hirC : i ∈ Region.ready .any ops listedC := mem_ready.2 ⟨hc, o, ho, fun e he hb => by rw [hnob e he] at hb; cases hb⟩
          obtain ⟨nC', rfl⟩ : ∃ q, nC = q + 1 := ⟨nC - 1, by have := unl_pos hc his; omega⟩
          refine ⟨fun hr => (by rw [hr] at hirC; cases hirC), fun j hj => ?_⟩
          rcases IL.ready hj with h1 | h1
          · exact freshC rfl j hj h1
          · obtain ⟨oj, hoj, hw⟩ := hcand j h1
            obtain ⟨_, oj', hoj', hall⟩ := mem_ready.1 hj
            obtain rfl : oj' = oj := Option.some.inj (hoj'.symm.trans hoj)
            obtain ⟨e, he, hb, heq⟩ := waits_on hw
            have := hall e he hb
            rw [heq] at this
            rw [getD_of_true this true] at hc; cases hc
        · -- it is there: it is taken in
          obtain ⟨cs', hz', hH⟩ := IL.held i o e d ho ha hop hd hc hun
          have : cs' = cs := Option.some.inj (hz'.symm.trans hz)
          subst this
          unfold oneL at H
          rw [ho] at H
          simp only at H
          rw [alloc_eval ha hop hd hz (by rw [← hT.sz]; exact IL.fit i o d ho ha hd)] at H
          have H : (bif keeps (newA cs' h).2 (keepP o pr) then evLate P call ops n (listed.setIfInBounds i true) (keepP o pr) { F with tm := (d, .ptr h.nx 0) :: F.tm } (newA cs' h).2 else .bad 98 : RT (Tm × Hp)).holds K := H
          cases hkp : keeps (newA cs' h).2 (keepP o pr)
          · rw [hkp] at H; exact H.elim
          rw [hkp] at H
          obtain ⟨E1, S1, r1, hk1⟩ := I.adopt hH
          have hM' := hM.step ho S1 hkp
          rw [kept_alloc ho ha] at hM'
          have hT1 : RelT E1 { F with tm := (d, .ptr h.nx 0) :: F.tm } a := by
            refine ⟨hT.sz, fun t => ?_, hT.df.mono S1.ext⟩
            simp only [look_cons]
            cases hb : Nat.beq d t
            · exact Rel.mono S1.ext _ _ (hT.tm t)
            · obtain rfl := Nat.eq_of_beq_eq_true hb
              exact r1
          refine ih n nC (bl := bl) (by omega) H S1.inv hT1 hM' ⟨by rw [Array.size_setIfInBounds]; exact IL.ls, IL.lc, fun q hq => ?_, fun q hq hq' => ?_, fun q oq eq dq hoq haq hopq hdq hcq hlq => ?_, fun q q' h1 h2 h3 h4 heq => ?_, fun q oq dq hoq haq hdq hlq => ?_, IL.fit⟩ hu (hn.step S1)
          · by_cases e : q = i
            · subst e; exact hc
            · rw [hset e] at hq; exact IL.sub q hq
          · have e : q ≠ i := fun e => by subst e; rw [set_self] at hq'; cases hq'
            rw [hset e] at hq'; exact IL.ext q hq hq'
          · have e : q ≠ i := fun e => by subst e; rw [set_self] at hlq; cases hlq
            rw [hset e] at hlq
            obtain ⟨cs2, hz2, hH2⟩ := IL.held q oq eq dq hoq haq hopq hdq hcq hlq
            exact ⟨cs2, hz2, hk1 _ _ _ (fun heq => e (IL.inj q i hcq hlq hc hun heq)) hH2⟩
          · have e : q ≠ i := fun e => by subst e; rw [set_self] at h2; cases h2
            have e' : q' ≠ i := fun e => by subst e; rw [set_self] at h4; cases h4
            rw [hset e] at h2
            rw [hset e'] at h4
            exact IL.inj q q' h1 h2 h3 h4 heq
          · have e : q ≠ i := fun e => by subst e; rw [set_self] at hlq; cases hlq
            rw [hset e] at hlq
            show look dq ((d, AV.ptr h.nx 0) :: F.tm) = .any
            rw [look_cons]
            cases hb : Nat.beq d dq
            · exact IL.any q oq dq hoq haq hdq hlq
            · obtain rfl := Nat.eq_of_beq_eq_true hb
              exact absurd hd (hdst q i oq o d hoq haq hdq ho (Ne.symm e))
      | other k l =>
        rw [hp] at H
        simp only at H
        obtain ⟨hcl, hnw⟩ := pick_other hp
        have H := allR_holds H
        -- one of them is there
        have hkC : k ∈ candL P ops listed := by rw [hcl]; exact List.mem_cons_self
        have rdy : ∀ j ∈ k :: l, listedC.getD j true = false ∧ j < ops.size ∧ j ∈ Region.ready .any ops listedC := fun j hj => by
          obtain ⟨o, ho, hnv⟩ := hnw j hj
          have hjs : j < ops.size := (Array.getElem?_eq_some_iff.1 ho).1
          have hb := (List.mem_filter.1 (by rw [hcl]; exact hj : j ∈ candL P ops listed)).2
          unfold candB at hb
          rw [ho] at hb
          simp only [Bool.and_eq_true, Bool.not_eq_true'] at hb
          obtain ⟨⟨hun, hna⟩, hdep⟩ := hb
          have hunC : listedC.getD j true = false := by
            cases hl : listedC.getD j true
            · rfl
            · have := IL.ext j hl hun
              unfold isLA at this
              rw [ho] at this
              simp only [hna] at this
              cases this
          refine ⟨hunC, hjs, mem_ready.2 ⟨hunC, o, ho, fun e he hb => ?_⟩⟩
          rw [Array.all_eq_true'] at hdep
          have h1 := hdep e he
          rw [hb] at h1
          simp only [Bool.not_true, Bool.false_or, Bool.or_eq_true] at h1
          rcases h1 with h1 | h1
          · exact IL.subF h1
          · have hes : e.on < ops.size := by
              unfold isLA at h1
              split at h1
              · rename_i oe hoe; exact (Array.getElem?_eq_some_iff.1 hoe).1
              · cases h1
            have hw : waits e.on o = true := Array.any_eq_true'.2 ⟨e, he, by rw [hb]; simp⟩
            exact IL.subF (listed_lt IL.ls hes (nextV_none hnv hes hw h1) false)
        obtain ⟨hunk, hks, hkr⟩ := rdy k List.mem_cons_self
        obtain ⟨nC', rfl⟩ : ∃ q, nC = q + 1 := ⟨nC - 1, by have := unl_pos hunk hks; omega⟩
        refine ⟨fun hr => (by rw [hr] at hkr; cases hkr), fun j hj => ?_⟩
        rcases IL.ready hj with h1 | h1
        · exact freshC rfl j hj h1
        · rw [hcl] at h1
          obtain ⟨hunj, hjs, _⟩ := rdy j h1
          have Hj := H j h1
          obtain ⟨o, ho, _⟩ := hnw j h1
          unfold oneL at Hj
          rw [ho] at Hj
          simp only at Hj
          rw [RT.holds_bind] at Hj
          have hna : allocF P o = false := by
            have hb := (List.mem_filter.1 (by rw [hcl]; exact h1 : j ∈ candL P ops listed)).2
            unfold candB at hb
            rw [ho] at hb
            simp only [Bool.and_eq_true, Bool.not_eq_true'] at hb
            exact hb.1.2
          have hcount := unl_set hunj ops.size
          rw [if_pos hjs] at hcount
          have hset : ∀ {L : Array Bool} {q : Nat}, q ≠ j → (L.setIfInBounds j true).getD q true = L.getD q true := fun hne => getD_set_ne true (Ne.symm hne)
          have hno : ∀ q oq dq, ops[q]? = some oq → allocF P oq = true → oq.dst = some dq → o.dst ≠ some dq := fun q oq dq h1 h2 h3 => hdst q j oq o dq h1 h2 h3 ho fun e => by
            subst e
            obtain rfl : oq = o := Option.some.inj (h1.symm.trans ho)
            rw [hna] at h2; cases h2
          unfold wpOp
          rw [ho]
          refine evStepQ_ok hcall (hdf j o ho) (evStep_still (hdf j o ho) Hj) I.top hT fun F' h' E' v w' hk hs hT' => ?_
          obtain ⟨hk, kst⟩ := hk
          have S := hs.under I
          cases hkp : keeps h' (keepP o pr)
          · rw [hkp] at hk; exact hk.elim
          rw [hkp] at hk
          have hM' := hM.step ho S hkp
          refine ⟨hM'.hold S.inv, ih n nC' (bl := bl) (by omega) hk S.inv hT' hM' ⟨by rw [Array.size_setIfInBounds]; exact IL.ls, by rw [Array.size_setIfInBounds]; exact IL.lc, fun q hq => ?_, fun q hq hq' => ?_, fun q oq eq dq hoq haq hopq hdq hcq hlq => ?_, fun q q' h1 h2 h3 h4 heq => ?_, fun q oq dq hoq haq hdq hlq => ?_, fun q oq dq hoq haq hdq => by rw [put_size]; exact IL.fit q oq dq hoq haq hdq⟩ (by omega) (hn.step S)⟩
          · by_cases e : q = j
            · subst e; exact set_self _ _
            · rw [hset e] at hq ⊢; exact IL.sub q hq
          · have e : q ≠ j := fun e => by subst e; rw [set_self] at hq'; cases hq'
            rw [hset e] at hq hq'; exact IL.ext q hq hq'
          · have e : q ≠ j := fun e => by subst e; rw [set_self] at hlq; cases hlq
            rw [hset e] at hcq hlq
            rw [put_other (hno q oq dq hoq haq hdq)]
            obtain ⟨cs2, hz2, hH2⟩ := IL.held q oq eq dq hoq haq hopq hdq hcq hlq
            exact ⟨cs2, hz2, hH2.stepN hs⟩
          · have e : q ≠ j := fun e => by subst e; rw [set_self] at h2; cases h2
            have e' : q' ≠ j := fun e => by subst e; rw [set_self] at h4; cases h4
            rw [hset e] at h1 h2
            rw [hset e'] at h3 h4
            exact IL.inj q q' h1 h2 h3 h4 heq
          · have e : q ≠ j := fun e => by subst e; rw [set_self] at hlq; cases hlq
            rw [hset e] at hlq
            exact kst dq (hno q oq dq hoq haq hdq) (IL.any q oq dq hoq haq hdq hlq)
theorem forgetL_look {d : Nat} {F : Tm} : ∀ {l : List Oper}, (((∃ o ∈ l, allocF P o = true ∧ o.dst = some d) → look d (forgetL P l F).tm = .any)) ∧ (forgetL P l F).nt = F.nt ∧ (forgetL P l F).df = F.df ∧ ∀ t, look t (forgetL P l F).tm = .any ∨ look t (forgetL P l F).tm = look t F.tm
  | [] => ⟨(fun ⟨_, h, _⟩ => nomatch h), rfl, rfl, fun _ => .inr rfl⟩
  | o :: l => by
    obtain ⟨h1, h2, h3, h4⟩ := forgetL_look (d := d) (F := F) (l := l)
    have e : forgetL P (o :: l) F = (bif allocF P o then (match o.dst with | some d => { forgetL P l F with tm := (d, .any) :: (forgetL P l F).tm } | none => forgetL P l F) else forgetL P l F) := rfl
    cases ha : allocF P o
    · rw [ha] at e
      simp only [cond_false] at e
      rw [e]
      refine ⟨fun ⟨q, hq, hq2, hq3⟩ => ?_, h2, h3, h4⟩
      rcases List.mem_cons.1 hq with rfl | hq
      · rw [ha] at hq2; cases hq2
      · exact h1 ⟨q, hq, hq2, hq3⟩
    · rw [ha] at e
      obtain ⟨_, _, _, d0, _, _, hd0, _⟩ := allocF_alloc ha
      simp only [cond_true, hd0] at e
      rw [e]
      refine ⟨fun ⟨q, hq, hq2, hq3⟩ => ?_, h2, h3, fun t => ?_⟩
      · simp only [look_cons]
        cases hb : Nat.beq d0 d
        · rcases List.mem_cons.1 hq with rfl | hq
          · rw [hd0] at hq3; cases hq3; simp at hb
          · exact h1 ⟨q, hq, hq2, hq3⟩
        · rfl
      · simp only [look_cons]
        cases hb : Nat.beq d0 t
        · exact h4 t
        · exact .inl rfl
theorem evLateR_ok (hcall : CallOk P call) (hr : lateR P ops = true) (hQ : ∀ d v c a w, Q (.panic c) (Act.put a d v) w → Q (.panic c) a w) {K : Tm × Hp → Prop} {F : Tm} {h : Hp} {E : Env} {w : World} {a : Act}
    (H : (evLateR P call ops F h).holds K) (I : Inv P w0 G E h w) (hT : RelT E F a) (hn : Cont P w0 G E h w K (Q .normal)) : wpL P ops Q ops.size (Array.replicate ops.size false) [] a w := by
  unfold lateR at hr
  cases hu : unord P ops
  · rw [hu] at hr; cases hr
  rw [hu] at hr
  simp only [cond_true, Bool.and_eq_true] at hr
  obtain ⟨⟨⟨hns, hnd⟩, hds⟩, _⟩ := hr
  unfold evLateR at H
  cases hf : ops.toList.all (fitO P F.nt)
  · rw [hf] at H; exact H.elim
  rw [hf] at H
  simp only [cond_true] at H
  have mem : ∀ (i : Nat) (o : Oper), ops[i]? = some o → o ∈ ops.toList := fun i o ho => Array.mem_toList_iff.2 (Array.mem_of_getElem? ho)
  have hrep : ∀ i, i < ops.size → (Array.replicate ops.size false).getD i true = false := fun i hi => by
    rw [Array.getD_eq_getD_getElem?, Array.getElem?_replicate, if_pos hi]; rfl
  have hout : ∀ i d, (Array.replicate ops.size false).getD i d = true → ops.size ≤ i := fun i d hi => by
    rcases Nat.lt_or_ge i ops.size with h | h
    · rw [Array.getD_eq_getD_getElem?, Array.getElem?_replicate, if_pos h] at hi; cases hi
    · exact h
  have hlook := fun d => (forgetL_look (P := P) (d := d) (F := F) (l := ops.toList))
  have hT0 : RelT E (forgetL P ops.toList F) a := by
    refine ⟨hT.sz.trans (hlook 0).2.1.symm, fun t => ?_, by rw [(hlook 0).2.2.1]; exact hT.df⟩
    rcases (hlook 0).2.2.2 t with h | h
    · rw [h]; trivial
    · rw [h]; exact hT.tm t
  refine late_ok hcall hns (fun i o ho F => ?_) (fun i j oi oj d hoi hai hdi hoj hne hdj => ?_) hQ (ops.size + ops.size) ops.size ops.size (bl := fun _ => 0) (by omega) H I hT0 .nil
    ⟨by simp, by simp, fun i hi => hi, fun i h1 h2 => (by rw [h1] at h2; cases h2), fun i o e d ho _ _ _ h1 h2 => (by rw [h1] at h2; cases h2), fun i i' h1 h2 => (by rw [h1] at h2; cases h2), fun i o d ho ha hd _ => (hlook d).1 ⟨o, mem i o ho, ha, hd⟩, fun i o d ho ha hd => ?_⟩ (unl_le _ _) hn
  · have := List.all_eq_true.1 hnd o (mem i o ho)
    unfold notDf at this
    unfold deferA
    split
    · rename_i hc; rw [hc] at this; cases this
    · rfl
  · unfold dstL at hds
    have his : i < ops.size := (Array.getElem?_eq_some_iff.1 hoi).1
    have hjs : j < ops.size := (Array.getElem?_eq_some_iff.1 hoj).1
    have h1 := List.all_eq_true.1 hds i (List.mem_range.2 his)
    have hla : isLA P ops i = true := by unfold isLA; rw [hoi]; exact hai
    rw [hla] at h1
    simp only [Bool.not_true, Bool.false_or] at h1
    have h2 := List.all_eq_true.1 h1 j (List.mem_range.2 hjs)
    have hb : Nat.beq i j = false := by
      cases hb : Nat.beq i j
      · rfl
      · exact absurd (Nat.eq_of_beq_eq_true hb).symm hne
    rw [hb, hoi, hoj] at h2
    simp only [Bool.false_or, Option.bind_some, hdi] at h2
    unfold sameDst at h2
    rw [hdj] at h2
    simp at h2
  · have := List.all_eq_true.1 hf o (mem i o ho)
    unfold fitO at this
    rw [ha, hd] at this
    simp only [Bool.not_true, Bool.false_or] at this
    rw [hT.sz]; exact blt_lt this
end
end
end Go.Proofs.YtokiedeiamlnlaaGreat
