/- Ev9: regions that draw their order: what reads alone may be taken first. No condition. -/
import Derived.Test.YtokiedeiamlnlaaGreatEv8
namespace Go.Proofs.YtokiedeiamlnlaaGreat
set_option linter.unusedSimpArgs false
set_option linter.unusedVariables false
open Go.RowKit
set_option maxRecDepth 10000
noncomputable section
section
variable {P : Program} {ops : Array Oper} {Q : Exit → Act → World → Prop}

def depends (ops : Array Oper) (i j : Nat) : Bool := match ops[j]? with | some o => waits i o | none => false
/-- a promise: operation i reads the same as long as this holds -/
abbrev SPrm := List (Nat × (World → Prop))
def kept (ops : Array Oper) (j : Nat) (pr : SPrm) : SPrm := pr.filter fun p => !depends ops p.1 j
def wpL (P : Program) (ops : Array Oper) (Q : Exit → Act → World → Prop) : Nat → Array Bool → SPrm → Act → World → Prop
  | 0, listed, _, a, w => Region.ready .any ops listed = [] ∧ Q .normal a w
  | n + 1, listed, pr, a, w => (Region.ready .any ops listed = [] → Q .normal a w) ∧
    ∀ j ∈ Region.ready .any ops listed, wpOp P ops Q j (fun a' w' => (∀ p ∈ kept ops j pr, p.2 w') ∧ wpL P ops Q n (listed.setIfInBounds j true) (kept ops j pr) a' w') a w
theorem wpL_any : ∀ (n : Nat) (listed : Array Bool) (pr : SPrm) (a : Act) (w : World), wpL P ops Q n listed pr a w → wpAny P .any ops Q n listed a w
  | 0, _, _, _, _, h => h
  | n + 1, _, _, _, _, h => ⟨h.1, fun i hi => wpOp_mono (fun a' w' h' => wpL_any n _ _ a' w' h'.2) (h.2 i hi)⟩
theorem kept_sub {j : Nat} {pr pr' : SPrm} (h : ∀ p ∈ pr', p ∈ pr) : ∀ p ∈ kept ops j pr', p ∈ kept ops j pr := fun p hp => by
  unfold kept at *
  rw [List.mem_filter] at *
  exact ⟨h p hp.1, hp.2⟩
theorem wpL_weaken : ∀ (n : Nat) (listed : Array Bool) (pr pr' : SPrm) (a : Act) (w : World), (∀ p ∈ pr', p ∈ pr) → wpL P ops Q n listed pr a w → wpL P ops Q n listed pr' a w
  | 0, _, _, _, _, _, _, h => h
  | n + 1, _, _, _, _, _, hs, h => ⟨h.1, fun i hi => wpOp_mono (fun a' w' h' => ⟨fun p hp => h'.1 p (kept_sub hs p hp), wpL_weaken n _ _ _ a' w' (kept_sub hs) h'.2⟩) (h.2 i hi)⟩
theorem waits_ready {i j : Nat} {listed : Array Bool} (hj : j ∈ Region.ready .any ops listed) (hi : listed.getD i true = false) : depends ops i j = false := by
  obtain ⟨_, oj, hoj, hall⟩ := mem_ready.1 hj
  unfold depends
  rw [hoj]
  simp only [waits]
  cases hw : (oj.after.any fun e => Region.binds .any e && e.on == i)
  · rfl
  · obtain ⟨e, he, h2⟩ := Array.any_eq_true'.1 hw
    simp only [Bool.and_eq_true, beq_iff_eq] at h2
    have h1 := hall e he h2.1
    rw [h2.2] at h1
    rcases Nat.lt_or_ge i listed.size with h' | h'
    · simp [h'] at hi h1; rw [hi] at h1; cases h1
    · simp [Array.getElem?_eq_none h'] at h1
theorem wpL_first {i : Nat} {oi : Oper} {v : Value} {T : World → Prop} (hi : ops[i]? = some oi) (hsel : ∀ (j : Nat) (o : Oper) cs b, ops[j]? = some o → o.op ≠ .select cs b)
    (hQ : ∀ c a w, Q (.panic c) (a.put oi.dst v) w → Q (.panic c) a w) :
    ∀ (n : Nat) (listed : Array Bool) (pr : SPrm) (a : Act) (w : World),
      (∀ j oj, ops[j]? = some oj → j ≠ i → listed.getD j true = false → (∀ e ∈ oj.after, Region.binds .any e = true → e.on ≠ i) → oi.apart ops oj = true) →
      i ∈ Region.ready .any ops listed → YieldsIf P ops T oi v a → T w → (∀ p ∈ pr, p.2 w) →
      wpL P ops Q n (listed.setIfInBounds i true) ((i, T) :: pr) (a.put oi.dst v) w → wpL P ops Q (n + 1) listed pr a w := by
  intro n
  induction n with
  | zero =>
    intro listed pr a w _ hr hy hT hpr H
    refine ⟨fun h => (by rw [h] at hr; cases hr), fun j hj => ?_⟩
    by_cases hji : j = i
    · subst hji; exact hy.wpOp hi hT ⟨fun p hp => hpr p (List.mem_filter.1 hp).1, H⟩
    · have := ready_mono hj hji
      rw [H.1] at this
      cases this
  | succ n ih =>
    intro listed pr a w hfree hr hy hT hpr H
    refine ⟨fun h => (by rw [h] at hr; cases hr), fun j hj => ?_⟩
    by_cases hji : j = i
    · subst hji
      exact hy.wpOp hi hT ⟨fun p hp => hpr p (List.mem_filter.1 hp).1, wpL_weaken _ _ _ _ _ _ (fun p hp => List.mem_cons_of_mem _ (List.mem_filter.1 hp).1) H⟩
    · have h1 := H.2 j (ready_mono hj hji)
      obtain ⟨hjun, oj, hoj, hall⟩ := mem_ready.1 hj
      have hiun := (mem_ready.1 hr).1
      have hdep := waits_ready hj hiun
      have hnot : ∀ e ∈ oj.after, Region.binds .any e = true → e.on ≠ i := fun e he hb heq => by
        have h1 := hall e he hb
        rw [heq] at h1
        rcases Nat.lt_or_ge i listed.size with h' | h'
        · simp [h'] at hiun h1; rw [hiun] at h1; cases h1
        · simp [Array.getElem?_eq_none h'] at h1
      have hkept : kept ops j ((i, T) :: pr) = (i, T) :: kept ops j pr := by
        unfold kept
        rw [List.filter_cons]
        simp [hdep]
      rw [hkept] at h1
      have h2 := wpOp_putIf hoj (hfree j oj hoj hji hjun hnot) (fun cs b => hsel i oi cs b hi) (fun cs b => hsel j oj cs b hoj) hQ hy h1
      have hfree' : ∀ k ok, ops[k]? = some ok → k ≠ i → (listed.setIfInBounds j true).getD k true = false →
          (∀ e ∈ ok.after, Region.binds .any e = true → e.on ≠ i) → oi.apart ops ok = true := fun k ok hk hki hun hno => by
        refine hfree k ok hk hki ?_ hno
        by_cases hjk : j = k
        · subst hjk; exact hjun
        · rw [getD_set_ne true hjk] at hun; exact hun
      refine wpOp_mono (fun a' w' h3 => ?_) h2
      obtain ⟨h4, h5, h6⟩ := h3
      refine ⟨fun p hp => h5 p (List.mem_cons_of_mem _ hp), ih (listed.setIfInBounds j true) (kept ops j pr) a' w' hfree' (ready_mono hr (Ne.symm hji)) h4 (h5 (i, T) List.mem_cons_self) (fun p hp => h5 p (List.mem_cons_of_mem _ hp)) ?_⟩
      rw [Array.setIfInBounds_comm _ _ hji]
      exact h6

/-! The evaluator over such a region. -/
variable {E : Env} {F : Tm} {h : Hp} {w w0 : World} {G : Nat → Prop} {a : Act}
/-- promises that are met -/
inductive Met (E : Env) (h : Hp) (w : World) : Prm → SPrm → Prop
  | nil : Met E h w [] []
  | pure {pr : Prm} {spr : SPrm} (i : Nat) (T : World → Prop) (hz : ∀ W, (∀ b j v, E.Z b j = some v → W.cell? ⟨b, j, none⟩ = some v) → T W) : Met E h w pr spr → Met E h w pr ((i, T) :: spr)
  | load {pr : Prm} {spr : SPrm} (i b n : Nat) (T : World → Prop) (hl : E.live b) (hc : ver b h = n) (hz : ∀ W, (∀ b j v, E.Z b j = some v → W.cell? ⟨b, j, none⟩ = some v) → W.heap[E.β b]? = w.heap[E.β b]? → T W) :
      Met E h w pr spr → Met E h w ((i, b, n) :: pr) ((i, T) :: spr)
theorem Met.hold (I : Inv P w0 G E h w) {pr : Prm} {spr : SPrm} (H : Met E h w pr spr) : ∀ p ∈ spr, p.2 w := by
  induction H with
  | nil => simp
  | pure i T hz _ ih =>
    intro p hp
    rcases List.mem_cons.1 hp with rfl | hp
    · exact hz w I.z
    · exact ih p hp
  | load i b n T hl hc hz _ ih =>
    intro p hp
    rcases List.mem_cons.1 hp with rfl | hp
    · exact hz w I.z rfl
    · exact ih p hp
theorem Met.step {oj : Oper} {j : Nat} (hj : ops[j]? = some oj) {E' : Env} {h' : Hp} {w' : World} (hs : Stepd P w0 G E h w E' h' w') {pr : Prm} {spr : SPrm} (H : Met E h w pr spr) : keeps h' (keepP oj pr) = true → Met E' h' w' (keepP oj pr) (kept ops j spr) := by
  have hd : ∀ i, depends ops i j = waits i oj := fun i => by unfold depends; rw [hj]
  induction H with
  | nil => intro _; exact .nil
  | pure i T hz _ ih =>
    intro hk
    unfold kept
    rw [List.filter_cons]
    split
    · exact .pure i T (fun W hW => hz W fun b q v hv => hW b q v (hs.ext.Z b q v hv)) (ih hk)
    · exact ih hk
  | load i b n T hl hc hz _ ih =>
    intro hk
    simp only [keepP] at hk ⊢
    unfold kept
    rw [List.filter_cons, hd]
    cases hw : waits i oj
    · rw [hw] at hk
      simp only [cond_false, keeps, Bool.and_eq_true] at hk
      simp only [cond_false, Bool.not_false, if_true]
      have hc' := Nat.eq_of_beq_eq_true hk.1
      refine .load i b n T (hs.ext.live b hl) hc' (fun W hW hb => hz W (fun b q v hv => hW b q v (hs.ext.Z b q v hv)) ?_) (ih hk.2)
      rw [hs.ext.β b hl] at hb
      rw [hb]
      exact (hs.un b hl).2 (by rw [hc', hc])
    · rw [hw] at hk
      simp only [cond_true, Bool.not_true, Bool.false_eq_true, if_false]
      exact ih hk
theorem opnd_setA {d : Nat} {b : Bool} {x : Operand} {o : Nat} (hx : tgt (opnd (setA F d b) x) = some o) : tgt (opnd F x) = some o := by
  cases x with
  | tmp t =>
    simp only [opnd, setA, look_cons] at hx ⊢
    cases hb : Nat.beq d t
    · rw [hb] at hx; exact hx
    · rw [hb] at hx; cases hx
  | const v => exact hx
  | global g => exact hx
  | func f => exact hx
theorem seesO_setA {d : Nat} {b : Bool} {o : Oper} {W : World} (hW : SeesO E F o w W) : SeesO E (setA F d b) o w W := ⟨hW.1, fun x p h1 h2 => hW.2 x p h1 (opnd_setA h2)⟩
theorem evStepEarly_ok {call : FuncId → Spec} {o : Oper} {K : Tm × Hp → Prop} (he : earlyA P o = true) (H : (evStep P call ops o F h).holds K) (I : Inv P w0 G E h w) (hT : RelT E F a) :
    ∃ F' v, K (F', h) ∧ RelT E F' (a.put o.dst v) ∧ YieldsIf P ops (SeesO E F o w) o v a := by
  have go : ∀ F1, RelT E F1 a → (∀ W, SeesO E F o w W → SeesO E F1 o w W) → Region.wanted o (yielded ops a.tmps) = true → (match deferA o F1 with
      | some r => r.bind fun F => .ok (F, h)
      | none => (evOp P call o F1 h).bind fun r => (putA F1 o.dst r.1).bind fun F => .ok (F, r.2) : RT (Tm × Hp)).holds K →
      ∃ F' v, K (F', h) ∧ RelT E F' (a.put o.dst v) ∧ YieldsIf P ops (SeesO E F o w) o v a := fun F1 hT1 hS hw H => by
    have hnd : deferA o F1 = none := by
      unfold deferA
      split
      · rename_i c hc; unfold earlyA at he; rw [hc] at he; cases he
      · rfl
    rw [hnd] at H
    simp only at H
    rw [RT.holds_bind] at H
    obtain ⟨av, v, h1, h2, h3⟩ := evEarly_ok he H I hT1
    rw [RT.holds_bind] at h1
    obtain ⟨F', k1, k2⟩ := putA_ok h1 hT1 h2
    exact ⟨F', v, k1, k2, .inl ⟨hw, fun W hW => h3 W (hS W hW)⟩⟩
  have skip : ∀ F1, RelT E F1 a → Region.wanted o (yielded ops a.tmps) = false → ((putA F1 o.dst (.tup [])).bind fun F => .ok (F, h)).holds K → ∃ F' v, K (F', h) ∧ RelT E F' (a.put o.dst v) ∧ YieldsIf P ops (SeesO E F o w) o v a := fun F1 hT1 hw H => by
    rw [RT.holds_bind] at H
    obtain ⟨F', k1, k2⟩ := putA_ok (u := undef) H hT1 ⟨#[], rfl, rfl⟩
    exact ⟨F', undef, k1, k2, .inr ⟨hw, rfl⟩⟩
  unfold evStep guardA at H
  split at H
  · rename_i hg
    have hw : Region.wanted o (yielded ops a.tmps) = true := by simp [Region.wanted, hg]
    exact go F hT (fun W h => h) hw H
  · rename_i j want hg
    split at H
    · exact H.elim
    · rename_i d hd
      split at H
      · rename_i kn b hl
        have hv := hT.tm d
        rw [hl] at hv
        have hy : yielded ops a.tmps j = some b := by
          unfold yielded
          rw [hd]
          have hv1 := hv.1
          rw [Array.getD_eq_getD_getElem?] at hv1
          cases ht : a.tmps[d]? with
          | none => rw [ht] at hv1; cases hv1
          | some x => rw [ht] at hv1; simp only [Option.getD_some] at hv1; simp [ht, hv1]
        have hwant : Region.wanted o (yielded ops a.tmps) = (b == want) := by
          simp only [Region.wanted, hg, hy]
          cases b <;> cases want <;> rfl
        have hset := setA_ok hT hl
        rcases brk_holds H with ⟨rfl, H2⟩ | ⟨rfl, H2⟩
        · cases want
          · exact skip _ hset (by rw [hwant]; decide) H2
          · exact go _ hset (fun W h => seesO_setA h) (by rw [hwant]; decide) H2
        · cases want
          · exact go _ hset (fun W h => seesO_setA h) (by rw [hwant]; decide) H2
          · exact skip _ hset (by rw [hwant]; decide) H2
      · rename_i hl
        have hv := hT.tm d
        rw [hl] at hv
        obtain ⟨us, hv1, hus⟩ := hv
        have hus : us = #[] := by cases us with | mk l => have : l = [] := hus; subst this; rfl
        subst hus
        have hy : yielded ops a.tmps j = none := by
          unfold yielded
          rw [hd]
          rw [Array.getD_eq_getD_getElem?] at hv1
          cases ht : a.tmps[d]? with
          | none => simp [ht]
          | some x => rw [ht] at hv1; simp only [Option.getD_some] at hv1; simp [ht, hv1]
        have hwant : Region.wanted o (yielded ops a.tmps) = false := by simp [Region.wanted, hg, hy]
        exact skip _ hT hwant H
      · exact H.elim
theorem met_promise {o : Oper} {i : Nat} {pr : Prm} {spr : SPrm} (hT : RelT E F a) (H : Met E h w pr spr) : Met E h w (promise i o F h ++ pr) ((i, SeesO E F o w) :: spr) := by
  have pure' : (∀ x b, rdOf o = some x → tgt (opnd F x) ≠ some b) → Met E h w pr ((i, SeesO E F o w) :: spr) := fun hn => .pure i _ (fun W hW => ⟨hW, fun x b h1 h2 => absurd h2 (hn x b h1)⟩) H
  unfold promise
  split
  · rename_i x hop
    split
    · rename_i b hx
      have hr := rel_opnd hT x
      have hlb : E.live b := by
        revert hx hr
        generalize opnd F x = X
        intro hx hr
        cases X <;> simp only [tgt] at hx <;> cases hx <;> exact hr.1
      refine .load i b _ _ hlb rfl (fun W hW hb => ⟨hW, fun x' b' h1 h2 => ?_⟩) H
      rw [hop] at h1
      injection h1 with h1
      subst h1
      rw [hx] at h2
      injection h2 with h2
      subst h2
      exact hb
    · rename_i hx
      refine pure' fun x' b h1 h2 => ?_
      rw [hop] at h1
      injection h1 with h1
      subst h1
      rw [hx] at h2; cases h2
  · rename_i hop
    exact pure' fun x b h1 _ => by rw [hop] at h1; cases h1
theorem earlyN_ok (o : Oper) (h : earlyN P o = true) : earlyA P o = true := by
  unfold earlyN at h
  split at h
  · cases h
  · exact h
theorem erOf_ok {Λ : FuncId → Nat → Option (Tm → Hp → RT (Ex × Tm × Hp))} {f id : Nat} (o : Oper) (h : erOf P Λ f id o = true) : earlyA P o = true := by
  unfold erOf at h
  cases hl : Λ f (2000 + id) with
  | none => rw [hl] at h; exact h
  | some x => rw [hl] at h; exact earlyN_ok o h
theorem evDrawn_ok {er : Oper → Bool} (her : ∀ o, er o = true → earlyA P o = true) {call : FuncId → Spec} (hcall : CallOk P call) (hns : Region.noSelect ops = true) (hQ : ∀ d v c a w, Q (.panic c) (Act.put a d v) w → Q (.panic c) a w) {K : Tm × Hp → Prop} :
    ∀ (n : Nat) {listed : Array Bool} {pr : Prm} {spr : SPrm} {F : Tm} {h : Hp} {E : Env} {w : World} {a : Act}, (evDrawn P er call ops n listed pr F h).holds K → Inv P w0 G E h w → RelT E F a → Met E h w pr spr→
      Cont P w0 G E h w K (Q .normal) → wpL P ops Q n listed spr a w
  | 0, listed, pr, spr, F, h, E, w, a, H, I, hT, hM, hn => by
    unfold evDrawn at H
    split at H
    · rename_i hr
      exact ⟨hr, hn _ _ _ _ _ H (Stepd.refl I) hT⟩
    · exact H.elim
  | n + 1, listed, pr, spr, F, h, E, w, a, H, I, hT, hM, hn => by
    unfold evDrawn at H
    simp only at H
    split at H
    · rename_i i hfind
      split at H
      · rename_i o ho
        cases hf : Region.free .any ops listed i
        · rw [hf] at H; exact H.elim
        rw [hf] at H
        simp only [cond_true] at H
        have he : earlyA P o = true := by
          have := List.find?_some hfind
          rw [ho] at this
          exact her o this
        have hir : i ∈ Region.ready .any ops listed := List.mem_of_find?_eq_some hfind
        rw [RT.holds_bind] at H
        obtain ⟨F', v, k1, k2, k3⟩ := evStepEarly_ok he H I hT
        have hM' := met_promise (i := i) (o := o) hT hM
        have hself : SeesO E F o w w := seesO_self I o
        exact wpL_first ho (Region.noSelect_spec hns) (hQ _ _) n listed spr a w (Region.free_spec ho hf) hir k3 hself (hM.hold I)
          (evDrawn_ok her hcall hns hQ n k1 I k2 hM' hn)
      · exact H.elim
    · rename_i hnone
      have one : ∀ i, (match ops[i]? with
          | some o => (evStep P call ops o F h).bind fun r => bif keeps r.2 (keepP o pr) then evDrawn P er call ops n (listed.setIfInBounds i true) (keepP o pr) r.1 r.2 else .bad 98
          | none => .bad 99 : RT (Tm × Hp)).holds K → wpOp P ops Q i (fun a' w' => (∀ p ∈ kept ops i spr, p.2 w') ∧ wpL P ops Q n (listed.setIfInBounds i true) (kept ops i spr) a' w') a w := fun i Hi => by
        split at Hi
        · rename_i o ho
          rw [RT.holds_bind] at Hi
          unfold wpOp
          rw [ho]
          refine evStep_ok hcall Hi I hT fun F' h' E' a' w' hk hs hT' => ?_
          cases hkp : keeps h' (keepP o pr)
          · rw [hkp] at hk; exact hk.elim
          · rw [hkp] at hk
            have hM' := hM.step ho hs hkp
            exact ⟨hM'.hold hs.inv, evDrawn_ok her hcall hns hQ n hk hs.inv hT' hM' (hn.step hs)⟩
        · exact Hi.elim
      split at H
      · rename_i hr
        exact ⟨fun _ => hn _ _ _ _ _ H (Stepd.refl I) hT, by rw [hr]; simp⟩
      · rename_i i hr
        refine ⟨(fun h0 => by rw [hr] at h0; cases h0), ?_⟩
        rw [hr]
        intro j hj
        obtain rfl : j = i := by simpa using hj
        exact one _ H
      · rename_i i j hr
        refine ⟨(fun h0 => by rw [hr] at h0; cases h0), ?_⟩
        rw [hr]
        intro q hq
        rcases (by simpa using hq : q = i ∨ q = j) with rfl | rfl
        · exact one _ H.1
        · exact one _ H.2
      · rename_i i j k hr
        refine ⟨(fun h0 => by rw [hr] at h0; cases h0), ?_⟩
        rw [hr]
        intro q hq
        rcases (by simpa using hq : q = i ∨ q = j ∨ q = k) with rfl | rfl | rfl
        · exact one _ H.1
        · exact one _ H.2.1
        · exact one _ H.2.2
      · exact H.elim
end
end
end Go.Proofs.YtokiedeiamlnlaaGreat
