/- Mg4: texts of this claim, one behind the other: Ev8 Ev9. No condition. -/
import Derived.Test.YtdlomggjhclmlaaGreatDoorEvK
namespace Go.Proofs.YtdlomggjhclmlaaGreatDoor
set_option linter.unusedSimpArgs false
set_option linter.unusedVariables false
open Go.RowKit
set_option maxRecDepth 10000
noncomputable section

/-- what calls answer is right -/
def CallOk (P : Program) (call : FuncId → Spec) : Prop := ∀ g args h K, (call g args h).holds K → ((plainF P g).isSome = true ∧ noGor P = true) ∧ ∀ w0 G E w vals, Inv P w0 G E h w → RelL E args vals →
  Calls P g vals.toArray w fun e w' => ∃ r h' v E', K (r, h') ∧ e = .returned v ∧ Stepd P w0 G E h w E' h' w' ∧ Rel E' r v
theorem callFunc_plain {P : Program} {g : FuncId} {vals : Array Value} {w : World} (hh : (plainF P g).isSome = true ∧ noGor P = true) : (callFunc g vals).run P w = .ok (.enter g vals) w := by
  obtain ⟨h, hng⟩ := hh
  unfold plainF at h
  split at h
  · rename_i fn hf
    split at h
    · rename_i c hc
      have hmem : fn ∈ P.funcs.toList := by
        obtain ⟨hlt, he⟩ := Array.getElem?_eq_some_iff.1 hf
        exact he ▸ Array.getElem_mem_toList hlt
      have hn := List.all_eq_true.1 hng fn hmem
      have hn' : ¬ fn.name = "runtime.NumGoroutine" := by simpa using hn
      simp [callFunc, hf, hn', hc]
    · cases h
  · cases h

section
variable {P : Program} {E : Env} {F : Tm} {h : Hp} {w w0 : World} {G : Nat → Prop} {a : Act} {Q : Exit → Act → World → Prop}

theorem v_holds {r : RT AV} {K : AV × Hp → Prop} (H : (r.bind fun a => .ok (a, h)).holds K) : r.holds fun a => K (a, h) := by rw [RT.holds_bind] at H; exact H
/-- a world in which an operation reads what it reads in w -/
def SeesO (E : Env) (F : Tm) (o : Oper) (w W : World) : Prop := (∀ b j v, E.Z b j = some v → W.cell? ⟨b, j, none⟩ = some v) ∧ ∀ x b, rdOf o = some x → tgt (opnd F x) = some b → W.heap[E.β b]? = w.heap[E.β b]?
set_option maxHeartbeats 1000000 in
theorem evEarly_ok {call : FuncId → Spec} {o : Oper} {K : AV × Hp → Prop} (he : earlyA P o = true) (H : (evOp P call o F h).holds K) (I : Inv P w0 G E h w) (hT : RelT E F a) :
    ∃ av v, K (av, h) ∧ Rel E av v ∧ ∀ W, SeesO E F o w W → (execOp a.eval o).run P W = .ok (.value v) W := by
  have val : ∀ {s : Sem Value}, execOp a.eval o = (do pure (.value (← s))) → (∃ av u, K (av, h) ∧ (∀ W, s.run P W = .ok u W) ∧ Rel E av u) → ∃ av v, K (av, h) ∧ Rel E av v ∧ ∀ W, SeesO E F o w W → (execOp a.eval o).run P W = .ok (.value v) W := by
    rintro s hs ⟨av, u, h1, h2, h3⟩
    refine ⟨av, u, h1, h3, fun W _ => ?_⟩
    rw [hs]
    simp only [Sem.run_bind, h2, Result.andThen_ok, Sem.run_pure]
  have pur : ∀ {av : AV} {v : Value}, execOp a.eval o = pure (.value v) → K (av, h) → Rel E av v → ∃ av v, K (av, h) ∧ Rel E av v ∧ ∀ W, SeesO E F o w W → (execOp a.eval o).run P W = .ok (.value v) W := by
    intro av v hs h1 h2
    refine ⟨av, v, h1, h2, fun W _ => ?_⟩
    rw [hs]
    rfl
  obtain ⟨dst, op, type, pos, after, guard⟩ := o
  cases op <;> simp only [evOp] at H <;> first | (exact H.elim) | skip
  case alloc e => cases he
  case box e x => cases he
  case makeMap t r => cases he
  case lookup t m k two => cases he
  case mapUpdate t m k x => cases he
  case mapEntry t m k => cases he
  case range t x => cases he
  case next it b => cases he
  case entry it => cases he
  case entryStore t m s x => cases he
  case buildSlice t n ps => cases he
  case makeSlice t l c => cases he
  case store t x y => cases he
  case move x => exact pur rfl H (rel_opnd hT x)
  case assign x => exact pur rfl H (rel_opnd hT x)
  case pick c x y =>
    have hc := rel_opnd hT c
    split at H
    · rename_i kn b hcb
      rw [hcb] at hc
      have hcv : a.eval c = .bool b := hc.1
      rcases brk_holds H with ⟨rfl, H2⟩ | ⟨rfl, H2⟩
      · exact pur (v := a.eval x) (by simp only [execOp, hcv]; rfl) H2 (rel_opnd hT x)
      · exact pur (v := a.eval y) (by simp only [execOp, hcv]; rfl) H2 (rel_opnd hT y)
    · exact H.elim
  case build t ps => exact val (s := Instr.build t _) rfl (buildA_ok (by simp) hT (v_holds H))
  case load t x =>
    obtain ⟨av, u, h1, h2, h3⟩ := loadA_ok (v_holds H) I (rel_opnd hT x)
    refine ⟨av, u, h1, h3, fun W hW => ?_⟩
    have := h2 W ⟨hW.1, fun o hx => hW.2 x o rfl hx⟩
    simp only [execOp, Sem.run_bind, this, Result.andThen_ok, Sem.run_pure]
  case nilCheck x =>
    have hx := rel_opnd hT x
    split at H
    · rename_i o off hxo
      rw [hxo] at hx
      obtain ⟨hl, hv⟩ := hx
      exact pur (v := a.eval x) (by simp only [execOp, hv]) H ⟨hl, hv⟩
    · rename_i kn es d j hxo
      rw [hxo] at hx
      obtain ⟨b, o, hv, he⟩ := hx
      exact pur (v := a.eval x) (by simp only [execOp, hv]) H ⟨b, o, hv, he⟩
    · rename_i kn o n i j hxo
      rw [hxo] at hx
      obtain ⟨hl, hv⟩ := hx
      exact pur (v := a.eval x) (by simp only [execOp, hv]) H ⟨hl, hv⟩
    · rename_i cs hxo
      rw [hxo] at hx
      obtain ⟨vs, b, o, h1, h2, hv, h3⟩ := hx
      exact pur (v := a.eval x) (by simp only [execOp, hv]) H ⟨vs, b, o, h1, h2, hv, h3⟩
    · rename_i f c d hxo
      rw [hxo] at hx
      obtain ⟨a', c', hv, g1, g2⟩ := hx
      have hv : a.eval x = .func (.func f) a' c' := hv
      exact pur (v := a.eval x) (by simp only [execOp, hv]) H ⟨a', c', hv, g1, g2⟩
    · exact H.elim
  case binOp op t x y yt => exact val (s := do eqGuard op t x y (a.eval x) (a.eval y); Go.binOp op t (a.eval x) (a.eval y)) rfl (binA_ok (v_holds H) (rel_opnd hT x) (rel_opnd hT y))
  case unOp op t x => exact val (s := Op.unary op (a.eval x)) rfl (unA_ok (v_holds H) (rel_opnd hT x))
  case convert s d x =>
    have hto : isToB P s d = false := by
      have h1 : (!(isToB P s d)) = true := he
      simpa using h1
    rw [hto] at H
    simp only [cond_false] at H
    obtain ⟨av, u, h1, h2, h3⟩ := convA_ok (v_holds H) I (rel_opnd hT x)
    refine ⟨av, u, h1, h3, fun W hW => ?_⟩
    have := h2 W ⟨hW.1, fun o hx => hW.2 x o rfl hx⟩
    simp only [execOp, Sem.run_bind, this, Result.andThen_ok, Sem.run_pure]
  case makeFunc f x c =>
    cases f <;> first | (exact H.elim) | skip
    rename_i f
    refine val (s := Instr.makeFunc (.func f) (x.map a.eval) (c.map a.eval)) rfl ⟨_, _, H, fun W => rfl, _, _, rfl, ?_, ?_⟩
    · simpa using rel_map hT x.toList
    · simpa using rel_map hT c.toList
  case slice t x lo hi mx => exact val (s := Instr.sliceAt t (a.eval x) (lo.map a.eval) (hi.map a.eval) (mx.map a.eval)) rfl (sliceA_ok hT (v_holds H) (rel_opnd hT x))
  case fieldAddr s x f => exact val (s := Instr.fieldAt s (a.eval x) f) rfl (fieldAddrA_ok (v_holds H) (rel_opnd hT x))
  case indexAddr t x i => exact val (s := Instr.indexAt t (a.eval x) (a.eval i)) rfl (indexAddrA_ok (v_holds H) (rel_opnd hT x) (rel_opnd hT i))
  case index t x i => exact val (s := Instr.index t (a.eval x) (a.eval i)) rfl (indexA_ok (v_holds H) (rel_opnd hT x) (rel_opnd hT i))
  case field t x f => exact val (s := Instr.field t (a.eval x) f) rfl (fieldA_ok (v_holds H) (rel_opnd hT x))
  case extract t i =>
    have ht := rel_opnd hT t
    split at H
    · rename_i vs hvs
      rw [hvs] at ht
      obtain ⟨vs', hv, hr⟩ := ht
      split at H
      · rename_i av hi
        obtain ⟨u, hu, hru⟩ := RelL.get hr hi
        have hu' : vs'[i]? = some u := by simpa using hu
        refine val (s := Instr.extract (a.eval t) i) rfl ⟨av, u, H, fun W => ?_, hru⟩
        simp [Instr.extract, hv, hu']
      · exact H.elim
    · exact H.elim
  case call c =>
    obtain ⟨callee, args, ts⟩ := c
    cases callee with
    | invoke r m => exact H.elim
    | value f => cases he
    | builtin b =>
      simp only at H
      have hexec : ∀ s : Sem Value, Go.builtin b ts type (args.map fun | .const _ => true | _ => false) (args.map a.eval) = (do pure (.value (← s))) → execOp a.eval { dst := dst, op := .call ⟨.builtin b, args, ts⟩, type := type, pos := pos, after := after, guard := guard } = (do pure (.value (← s))) := fun s hs => by
        simp only [execOp, resolve]
        exact hs
      unfold builtinA at H
      split at H
      · rename_i x hx
        have hmt : isMapT P ts = false := by
          have h1 : (!(isMapT P ts)) = true := he
          simpa using h1
        rw [hmt] at H
        simp only [cond_false] at H
        split at H
        · rename_i t ht
          have H := v_holds H
          obtain ⟨y, hy⟩ : ∃ y, args.toList = [y] := by
            cases hl : args.toList with
            | nil => rw [hl] at hx; cases hx
            | cons y l => cases l with
              | nil => exact ⟨y, rfl⟩
              | cons _ _ => rw [hl] at hx; simp at hx
          rw [hy] at hx
          simp only [List.map_cons, List.map_nil, List.cons.injEq, and_true] at hx
          have hargs : args.map a.eval = #[a.eval y] := by apply Array.ext'; simp [hy]
          have hts : ts = #[t] := by apply Array.ext'; simpa using ht
          have hxr := rel_opnd hT y
          rw [hx] at hxr
          refine val (hexec (Builtin.len_ ts type (args.map a.eval)) rfl) ?_
          rw [hargs, hts]
          exact lenA_ok H hxr
        · exact H.elim
      · cases he
      · cases he
      · cases he
      · have H := v_holds H
        refine val (hexec (Builtin.min_ ts type (args.map a.eval)) rfl) ?_
        have := minA_ok (P := P) (ts := ts) (ty := type) hT H
        rwa [show ((args.toList.map a.eval).toArray) = args.map a.eval by apply Array.ext'; simp] at this
      · have H := v_holds H
        refine val (hexec (Builtin.max_ ts type (args.map a.eval)) rfl) ?_
        have := maxA_ok (P := P) (ts := ts) (ty := type) hT H
        rwa [show ((args.toList.map a.eval).toArray) = args.map a.eval by apply Array.ext'; simp] at this
      · exact H.elim
theorem seesO_self (I : Inv P w0 G E h w) (o : Oper) : SeesO E F o w w := ⟨I.z, fun _ _ _ _ => rfl⟩
set_option maxHeartbeats 1000000 in
theorem evOp_ok {call : FuncId → Spec} (hcall : CallOk P call) {o : Oper} {K : AV × Hp → Prop} {next : Act → World → Prop} (H : (evOp P call o F h).holds K) (I : Inv P w0 G E h w) (hT : RelT E F a)
    (hn : ∀ av h' v w' E', K (av, h') → Stepd P w0 G E h w E' h' w' → Rel E' av v → next (a.put o.dst v) w') : o.wp P a w next Q := by
  cases he : earlyA P o
  case true =>
    obtain ⟨av, v, h1, h2, h3⟩ := evEarly_ok he H I hT
    unfold Oper.wp
    rw [h3 w (seesO_self I o), Oper.upon_value]
    exact hn _ _ _ _ _ h1 (Stepd.refl I) h2
  have chg : ∀ {s : Sem Value}, execOp a.eval o = (do pure (.value (← s))) → (∃ av h' u w' E', K (av, h') ∧ s.run P w = .ok u w' ∧ Stepd P w0 G E h w E' h' w' ∧ Rel E' av u) → o.wp P a w next Q := by
    rintro s hs ⟨av, h', u, w', E', h1, h2, h3, h4⟩
    unfold Oper.wp
    rw [hs]
    simp only [Sem.run_bind, h2, Result.andThen_ok, Sem.run_pure, Oper.upon_value]
    exact hn _ _ _ _ _ h1 h3 h4
  obtain ⟨dst, op, type, pos, after, guard⟩ := o
  cases op <;> simp only [evOp] at H <;> first | (exact H.elim) | (cases he; done) | skip
  case alloc e =>
    split at H
    · rename_i cs hz
      obtain ⟨z, hzr, _, g1, g2⟩ := zeroA_ok (E := E) hz
      obtain ⟨E', h1, h2⟩ := newA_ok (h := h) e I g1 g2
      refine chg (s := Instr.alloc e true (.tuple #[])) rfl ⟨_, _, _, _, E', H, ?_, h1, h2⟩
      simp [Instr.alloc, hzr, newVar, newRow, newObj]
      rfl
    · exact H.elim
  case box e x =>
    split at H
    · rename_i cs hc
      obtain ⟨g1, g2⟩ := rel_cells (rel_opnd hT x) hc
      obtain ⟨E', h1, h2⟩ := newA_ok (h := h) e I g1 g2
      refine chg (s := Instr.box e (a.eval x)) rfl ⟨_, _, _, _, E', H, ?_, h1, h2⟩
      simp [Instr.box, newVar, newRow, newObj]
      rfl
    · exact H.elim
  case buildSlice t n ps => exact chg (s := Instr.buildSlice t n _) rfl (buildSliceA_ok (by simp) hT I H)
  case makeSlice t l c => exact chg (s := Instr.makeSlice t (a.eval l) (a.eval c)) rfl (makeA_ok H I (rel_opnd hT l) (rel_opnd hT c))
  case makeMap t r =>
    cases r with
    | none =>
      obtain ⟨E', h1, h2⟩ := newM_ok I
      refine chg (s := Instr.makeMap t none) rfl ⟨_, _, _, _, E', H, ?_, h1, h2⟩
      simp [Instr.makeMap, newObj]
      rfl
    | some r => exact H.elim
  case convert s d x =>
    have hto : isToB P s d = true := by
      have h1 : (!(isToB P s d)) = false := he
      simpa using h1
    rw [hto] at H
    exact chg (s := Go.convert s d (a.eval x)) rfl (toBA_ok H hto I (rel_opnd hT x))
  case range t x => exact chg (s := Instr.range t (a.eval x)) rfl (rangeA_ok H I (rel_opnd hT x))
  case next it b =>
    cases b with
    | true => exact H.elim
    | false => exact chg (s := Instr.next (a.eval it) false type) rfl (nextA_ok H I (rel_opnd hT it))
  case entry it => exact chg (s := Instr.entry (a.eval it)) rfl (entryI_ok H I (rel_opnd hT it))
  case mapEntry t m k => exact chg (s := Instr.mapEntry t (a.eval m) (a.eval k)) rfl (entryA_ok H I (rel_opnd hT m) (rel_opnd hT k))
  case entryStore t m s x =>
    rw [RT.holds_bind] at H
    obtain ⟨h', w', h1, h2, h3⟩ := entryPutA_ok (t := t) H I (rel_opnd hT m) (rel_opnd hT s) (rel_opnd hT x)
    unfold Oper.wp
    have : (execOp a.eval { dst := dst, op := .entryStore t m s x, type := type, pos := pos, after := after, guard := guard }).run P w = .ok .skip w' := by
      simp only [execOp, Sem.run_bind, h2, Result.andThen_ok, Sem.run_pure]
    rw [this, Oper.upon_skip]
    exact hn _ _ _ _ _ h1 h3 trivial
  case lookup t m k two =>
    obtain ⟨av, u, h1, h2, h3⟩ := lookupA_ok (v_holds H) I (rel_opnd hT m) (rel_opnd hT k)
    exact chg (s := Instr.lookup t (a.eval m) (a.eval k) two) rfl ⟨_, _, _, _, E, h1, h2, Stepd.refl I, h3⟩
  case mapUpdate t m k x =>
    rw [RT.holds_bind] at H
    obtain ⟨h', w', h1, h2, h3⟩ := updateA_ok H I (rel_opnd hT m) (rel_opnd hT k) (rel_opnd hT x)
    unfold Oper.wp
    have : (execOp a.eval { dst := dst, op := .mapUpdate t m k x, type := type, pos := pos, after := after, guard := guard }).run P w = .ok .skip w' := by
      simp only [execOp, Sem.run_bind, h2, Result.andThen_ok, Sem.run_pure]
    rw [this, Oper.upon_skip]
    exact hn _ _ _ _ _ h1 h3 trivial
  case store t x y =>
    rw [RT.holds_bind] at H
    obtain ⟨h', w', h1, h2, h3⟩ := storeA_ok H I (rel_opnd hT x) (rel_opnd hT y)
    unfold Oper.wp
    have : (execOp a.eval { dst := dst, op := .store t x y, type := type, pos := pos, after := after, guard := guard }).run P w = .ok .skip w' := by
      simp only [execOp, Sem.run_bind, h2, Result.andThen_ok, Sem.run_pure]
    rw [this, Oper.upon_skip]
    exact hn _ _ _ _ _ h1 h3 trivial
  case call c =>
    obtain ⟨callee, args, ts⟩ := c
    cases callee with
    | invoke r m => exact H.elim
    | value f =>
      have hf := rel_opnd hT f
      simp only at H
      split at H
      · rename_i g x cap hfo
        rw [hfo] at hf
        obtain ⟨x', cap', hv, g1, g2⟩ := hf
        simp only [ylF] at hv
        obtain ⟨hpl, hc⟩ := hcall _ _ _ _ H
        have hrel := (g1.append (rel_map hT args.toList)).append g2
        have hC := hc w0 G E w _ I hrel
        unfold Oper.wp
        have hrun : (execOp a.eval { dst := dst, op := .call ⟨.value f, args, ts⟩, type := type, pos := pos, after := after, guard := guard }).run P w = .ok (.enter g (x'.toList ++ args.toList.map a.eval ++ cap'.toList).toArray) w := by
          have harr : (x' ++ args.map a.eval) ++ cap' = (x'.toList ++ args.toList.map a.eval ++ cap'.toList).toArray := by
            apply Array.ext'; simp
          simp only [execOp, resolve, hv, Deferred.ofValue, Sem.run_bind, Sem.run_pure, Result.andThen_ok, invoke]
          rw [callFunc_plain hpl, harr]
        rw [hrun, Oper.upon_enter]
        refine hC.mono ?_
        rintro e w' ⟨r, h', v, E', k1, rfl, k2, k3⟩
        exact hn _ _ _ _ _ k1 k2 k3
      · exact H.elim
    | builtin b =>
      simp only at H
      have hexec : ∀ s : Sem Value, Go.builtin b ts type (args.map fun | .const _ => true | _ => false) (args.map a.eval) = (do pure (.value (← s))) → execOp a.eval { dst := dst, op := .call ⟨.builtin b, args, ts⟩, type := type, pos := pos, after := after, guard := guard } = (do pure (.value (← s))) := fun s hs => by
        simp only [execOp, resolve]
        exact hs
      unfold builtinA at H
      split at H
      · rename_i x hx
        have hmt : isMapT P ts = true := by
          have h1 : (!(isMapT P ts)) = false := he
          simpa using h1
        rw [hmt] at H
        simp only [cond_true] at H
        obtain ⟨y, hy⟩ : ∃ y, args.toList = [y] := by
          cases hl : args.toList with
          | nil => rw [hl] at hx; cases hx
          | cons y l => cases l with
            | nil => exact ⟨y, rfl⟩
            | cons _ _ => rw [hl] at hx; simp at hx
        rw [hy] at hx
        simp only [List.map_cons, List.map_nil, List.cons.injEq, and_true] at hx
        have hargs : args.map a.eval = #[a.eval y] := by apply Array.ext'; simp [hy]
        have hxr := rel_opnd hT y
        rw [hx] at hxr
        refine chg (hexec (Builtin.len_ ts type (args.map a.eval)) rfl) ?_
        rw [hargs]
        exact lenM_ok H hmt I hxr
      · rename_i m k hx
        split at H
        · rename_i t tr ht
          rw [RT.holds_bind] at H
          obtain ⟨y, z, hy⟩ : ∃ y z, args.toList = [y, z] := by
            cases hl : args.toList with
            | nil => rw [hl] at hx; cases hx
            | cons y l => cases l with
              | nil => rw [hl] at hx; simp at hx
              | cons z l => cases l with
                | nil => exact ⟨y, z, rfl⟩
                | cons _ _ => rw [hl] at hx; simp at hx
          rw [hy] at hx
          simp only [List.map_cons, List.map_nil, List.cons.injEq, and_true] at hx
          have hargs : args.map a.eval = #[a.eval y, a.eval z] := by apply Array.ext'; simp [hy]
          have hts : ts[0]? = some t := by rw [← Array.getElem?_toList, ht]; rfl
          have h1 := rel_opnd hT y
          have h2 := rel_opnd hT z
          rw [hx.1] at h1
          rw [hx.2] at h2
          obtain ⟨h', w', k1, k2, k3⟩ := deleteA_ok (ty := type) H I h1 h2 ts hts
          refine chg (hexec (Builtin.delete_ ts type (args.map a.eval)) rfl) ⟨_, _, .tuple #[], _, E, k1, ?_, k3, trivial⟩
          rw [hargs]
          exact k2
        · exact H.elim
      · rename_i s x hx
        split at H
        · rename_i t t' ht
          cases hb : Nat.beq t t'
          · rw [hb] at H; exact H.elim
          rw [hb] at H
          simp only [cond_true] at H
          obtain rfl := Nat.eq_of_beq_eq_true hb
          obtain ⟨y, z, hy⟩ : ∃ y z, args.toList = [y, z] := by
            cases hl : args.toList with
            | nil => rw [hl] at hx; cases hx
            | cons y l => cases l with
              | nil => rw [hl] at hx; simp at hx
              | cons z l => cases l with
                | nil => exact ⟨y, z, rfl⟩
                | cons _ _ => rw [hl] at hx; simp at hx
          rw [hy] at hx
          simp only [List.map_cons, List.map_nil, List.cons.injEq, and_true] at hx
          have hargs : args.map a.eval = #[a.eval y, a.eval z] := by apply Array.ext'; simp [hy]
          have hts : ts = #[t, t] := by apply Array.ext'; simpa using ht
          have h1 := rel_opnd hT y
          have h2 := rel_opnd hT z
          rw [hx.1] at h1
          rw [hx.2] at h2
          refine chg (hexec (Builtin.append_ ts type (args.map a.eval)) rfl) ?_
          rw [hargs, hts]
          cases hre : rowE P t s x
          case true =>
            rw [hre] at H
            obtain h1' := rowE_nil hre h1
            rw [h1']
            exact appendR_ok H I h2
          rw [hre] at H
          simp only [cond_false] at H
          cases hg : isG (normS (shE P ((elemA P t).getD 0)) x s) || isG x || !(shapely P t)
          · rw [hg] at H; exact appendA_ok H I (normS_rel h1) h2
          · rw [hg] at H; exact appendG_ok H I h1 h2
        · exact H.elim
      · rename_i s x hx
        split at H
        · rename_i t t' ht
          cases hb : Nat.beq t t'
          · rw [hb] at H; exact H.elim
          rw [hb] at H
          simp only [cond_true] at H
          obtain rfl := Nat.eq_of_beq_eq_true hb
          obtain ⟨y, z, hy⟩ : ∃ y z, args.toList = [y, z] := by
            cases hl : args.toList with
            | nil => rw [hl] at hx; cases hx
            | cons y l => cases l with
              | nil => rw [hl] at hx; simp at hx
              | cons z l => cases l with
                | nil => exact ⟨y, z, rfl⟩
                | cons _ _ => rw [hl] at hx; simp at hx
          rw [hy] at hx
          simp only [List.map_cons, List.map_nil, List.cons.injEq, and_true] at hx
          have hargs : args.map a.eval = #[a.eval y, a.eval z] := by apply Array.ext'; simp [hy]
          have hts : ts = #[t, t] := by apply Array.ext'; simpa using ht
          have h1 := rel_opnd hT y
          have h2 := rel_opnd hT z
          rw [hx.1] at h1
          rw [hx.2] at h2
          refine chg (hexec (Builtin.copy_ ts type (args.map a.eval)) rfl) ?_
          rw [hargs, hts]
          exact copyA_ok H I h1 h2
        · exact H.elim
      · cases he
      · cases he
      · exact H.elim

theorem setA_ok (hT : RelT E F a) {d : Nat} {kn b : Bool} (hl : look d F.tm = .sc kn (.bool b)) : RelT E (setA F d b) a := by
  refine ⟨hT.sz, fun i => ?_, hT.df⟩
  have h0 := hT.tm d
  rw [hl] at h0
  simp only [setA, look_cons]
  cases hb : Nat.beq d i
  · exact hT.tm i
  · obtain rfl := Nat.eq_of_beq_eq_true hb
    exact ⟨h0.1, rfl⟩
theorem putA_ok {K : Tm → Prop} {dst : Option Tmp} {v : AV} {u : Value} (H : (putA F dst v).holds K) (hT : RelT E F a) (hr : Rel E v u) : ∃ F', K F' ∧ RelT E F' (a.put dst u) := by
  unfold putA at H
  split at H
  · exact ⟨F, H, hT⟩
  · rename_i d
    cases hb : Nat.blt d F.nt
    · rw [hb] at H; exact H.elim
    · rw [hb] at H
      refine ⟨_, H, by simp only [Act.put, Array.size_setIfInBounds]; exact hT.sz, fun i => ?_, hT.df⟩
      have hd : d < a.tmps.size := by rw [hT.sz]; exact Nat.lt_of_lt_of_le (Nat.lt_succ_self d) (Nat.le_of_ble_eq_true hb)
      simp only [look_cons, Act.put]
      cases hi : Nat.beq d i
      · have : d ≠ i := fun e => by rw [e] at hi; simp at hi
        have h2 := hT.tm i
        rw [Array.getD_eq_getD_getElem?] at h2 ⊢
        rw [Array.getElem?_setIfInBounds_ne this]
        exact h2
      · obtain rfl := Nat.eq_of_beq_eq_true hi
        rw [Array.getD_eq_getD_getElem?, Array.getElem?_setIfInBounds_self_of_lt hd]
        exact hr
theorem put_defers {dst : Option Tmp} {u : Value} : (a.put dst u).defers = a.defers := by unfold Act.put; split <;> rfl
theorem deferA_ok {K : Tm → Prop} {o : Oper} {r : RT Tm} (hr : deferA o F = some r) (H : r.holds K) (hT : RelT E F a) : ∃ F' d, K F' ∧ RelT E F' ({ a with defers := d :: a.defers }.put o.dst undef) ∧ (execOp a.eval o).run P w = .ok (.defer d) w := by
  unfold deferA at hr
  split at hr
  · rename_i c hc
    cases hr
    obtain ⟨callee, args, ts⟩ := c
    cases callee with
    | invoke _ _ => exact H.elim
    | builtin _ => exact H.elim
    | value f =>
      simp only at H
      have hf := rel_opnd hT f
      split at H
      · rename_i g x cap hfo
        rw [hfo] at hf
        obtain ⟨x', cap', hv, g1, g2⟩ := hf
        simp only [ylF] at hv
        have hT' : RelT E { F with df := (g, x ++ args.toList.map (opnd F) ++ cap) :: F.df } { a with defers := ⟨.fn (.func g) cap', x' ++ args.map a.eval⟩ :: a.defers } :=
          ⟨hT.sz, hT.tm, hT.df.1, _, _, _, rfl, by simpa using (g1.append (rel_map hT args.toList)).append g2, hT.df.2⟩
        obtain ⟨F', k1, k2⟩ := putA_ok (u := undef) H hT' trivial
        refine ⟨F', _, k1, k2, ?_⟩
        simp only [execOp, hc, resolve, hv, Deferred.ofValue, Sem.run_bind, Sem.run_pure, Result.andThen_ok]
      · exact H.elim
  · cases hr
/-- what follows a step -/
def Cont (P : Program) (w0 : World) (G : Nat → Prop) (E : Env) (h : Hp) (w : World) (K : Tm × Hp → Prop) (next : Act → World → Prop) : Prop :=
  ∀ F' h' E' a' w', K (F', h') → Stepd P w0 G E h w E' h' w' → RelT E' F' a' → next a' w'
theorem evStep_ok {call : FuncId → Spec} (hcall : CallOk P call) {ops : Array Oper} {o : Oper} {K : Tm × Hp → Prop} {next : Act → World → Prop} (H : (evStep P call ops o F h).holds K) (I : Inv P w0 G E h w) (hT : RelT E F a)
    (hn : Cont P w0 G E h w K next) : if Region.wanted o (yielded ops a.tmps) = true then o.wp P a w next Q ∨ (o.asks P a w ∧ LetsOut Q) else next (a.put o.dst undef) w := by
  have go : ∀ F, RelT E F a → (match deferA o F with
      | some r => r.bind fun F => .ok (F, h)
      | none => (evOp P call o F h).bind fun r => (putA F o.dst r.1).bind fun F => .ok (F, r.2) : RT (Tm × Hp)).holds K → o.wp P a w next Q := fun F hT H => by
    split at H
    · rename_i r hr
      rw [RT.holds_bind] at H
      obtain ⟨F', a', h1, h2, h3⟩ := deferA_ok hr H hT
      unfold Oper.wp
      rw [h3, Oper.upon_defer]
      exact hn _ _ _ _ _ h1 (Stepd.refl I) h2
    rw [RT.holds_bind] at H
    refine evOp_ok hcall H I hT fun av h' v w' E' hk hs hr => ?_
    rw [RT.holds_bind] at hk
    obtain ⟨F', k1, k2⟩ := putA_ok hk (hT.mono hs.ext) hr
    exact hn _ _ _ _ _ k1 hs k2
  have skip : ∀ F, RelT E F a → ((putA F o.dst (.tup [])).bind fun F => .ok (F, h)).holds K → next (a.put o.dst undef) w := fun F hT H => by
    rw [RT.holds_bind] at H
    obtain ⟨F', k1, k2⟩ := putA_ok (u := undef) H hT ⟨#[], rfl, rfl⟩
    exact hn _ _ _ _ _ k1 (Stepd.refl I) k2
  unfold evStep guardA at H
  split at H
  · rename_i hg
    have hw : Region.wanted o (yielded ops a.tmps) = true := by simp [Region.wanted, hg]
    rw [if_pos hw]
    exact .inl (go F hT H)
  · rename_i j want hg
    split at H
    · exact H.elim
    · rename_i d hd
      split at H
      · rename_i kn b hl
        have hv := hT.tm d
        rw [hl] at hv
        have hy : yielded ops a.tmps j = some b := by
          unfold yielded
          rw [hd]
          have hv1 := hv.1
          rw [Array.getD_eq_getD_getElem?] at hv1
          cases ht : a.tmps[d]? with
          | none => rw [ht] at hv1; cases hv1
          | some x => rw [ht] at hv1; simp only [Option.getD_some] at hv1; simp [ht, hv1]
        have hwant : Region.wanted o (yielded ops a.tmps) = (b == want) := by
          simp only [Region.wanted, hg, hy]
          cases b <;> cases want <;> rfl
        have hset := setA_ok hT hl
        rcases brk_holds H with ⟨rfl, H2⟩ | ⟨rfl, H2⟩
        · cases want
          · rw [if_neg (by rw [hwant]; decide)]; exact skip _ hset H2
          · rw [if_pos (by rw [hwant]; decide)]; exact .inl (go _ hset H2)
        · cases want
          · rw [if_pos (by rw [hwant]; decide)]; exact .inl (go _ hset H2)
          · rw [if_neg (by rw [hwant]; decide)]; exact skip _ hset H2
      · rename_i hl
        have hv := hT.tm d
        rw [hl] at hv
        obtain ⟨us, hv1, hus⟩ := hv
        have hus : us = #[] := by cases us with | mk l => have : l = [] := hus; subst this; rfl
        subst hus
        have hy : yielded ops a.tmps j = none := by
          unfold yielded
          rw [hd]
          rw [Array.getD_eq_getD_getElem?] at hv1
          cases ht : a.tmps[d]? with
          | none => simp [ht]
          | some x => rw [ht] at hv1; simp only [Option.getD_some] at hv1; simp [ht, hv1]
        have hwant : Region.wanted o (yielded ops a.tmps) = false := by simp [Region.wanted, hg, hy]
        rw [if_neg (by rw [hwant]; decide)]; exact skip _ hT H
      · exact H.elim
theorem Cont.step {K : Tm × Hp → Prop} {next : Act → World → Prop} (hn : Cont P w0 G E h w K next) {E1 : Env} {h1 : Hp} {w1 : World} (hs : Stepd P w0 G E h w E1 h1 w1) : Cont P w0 G E1 h1 w1 K next :=
  fun F' h' E' a' w' hk hs' hT => hn F' h' E' a' w' hk (hs.trans hs') hT
theorem evList_ok {call : FuncId → Spec} (hcall : CallOk P call) {ops : Array Oper} {K : Tm × Hp → Prop} : ∀ (l : List Oper) {F : Tm} {h : Hp} {E : Env} {w : World} {a : Act}, (evList P call ops l F h).holds K → Inv P w0 G E h w → RelT E F a →
    Cont P w0 G E h w K (Q .normal) → wpList P ops Q l a w
  | [], F, h, E, w, a, H, I, hT, hn => hn _ _ _ _ _ H (Stepd.refl I) hT
  | o :: l, F, h, E, w, a, H, I, hT, hn => by
    rw [evList_cons] at H
    rw [RT.holds_bind] at H
    have := evStep_ok (Q := Q) (next := wpList P ops Q l) hcall H I hT (fun F' h' E' a' w' hk hs hT' => evList_ok hcall l hk hs.inv hT' (hn.step hs))
    unfold wpList
    split
    · rename_i hw; rw [if_pos hw] at this; exact this
    · rename_i hw; rw [if_neg hw] at this; exact this
end
end
end Go.Proofs.YtdlomggjhclmlaaGreatDoor

namespace Go.Proofs.YtdlomggjhclmlaaGreatDoor
set_option linter.unusedSimpArgs false
set_option linter.unusedVariables false
open Go.RowKit
set_option maxRecDepth 10000
noncomputable section
section
variable {P : Program} {ops : Array Oper} {Q : Exit → Act → World → Prop}

def depends (ops : Array Oper) (i j : Nat) : Bool := match ops[j]? with | some o => waits i o | none => false
/-- a promise: operation i reads the same as long as this holds -/
abbrev SPrm := List (Nat × (World → Prop))
def kept (ops : Array Oper) (j : Nat) (pr : SPrm) : SPrm := pr.filter fun p => !depends ops p.1 j
def wpL (P : Program) (ops : Array Oper) (Q : Exit → Act → World → Prop) : Nat → Array Bool → SPrm → Act → World → Prop
  | 0, listed, _, a, w => Region.ready .any ops listed = [] ∧ Q .normal a w
  | n + 1, listed, pr, a, w => (Region.ready .any ops listed = [] → Q .normal a w) ∧
    ∀ j ∈ Region.ready .any ops listed, wpOp P ops Q j (fun a' w' => (∀ p ∈ kept ops j pr, p.2 w') ∧ wpL P ops Q n (listed.setIfInBounds j true) (kept ops j pr) a' w') a w
theorem wpL_any : ∀ (n : Nat) (listed : Array Bool) (pr : SPrm) (a : Act) (w : World), wpL P ops Q n listed pr a w → wpAny P .any ops Q n listed a w
  | 0, _, _, _, _, h => h
  | n + 1, _, _, _, _, h => ⟨h.1, fun i hi => wpOp_mono (fun a' w' h' => wpL_any n _ _ a' w' h'.2) (h.2 i hi)⟩
theorem kept_sub {j : Nat} {pr pr' : SPrm} (h : ∀ p ∈ pr', p ∈ pr) : ∀ p ∈ kept ops j pr', p ∈ kept ops j pr := fun p hp => by
  unfold kept at *
  rw [List.mem_filter] at *
  exact ⟨h p hp.1, hp.2⟩
theorem wpL_weaken : ∀ (n : Nat) (listed : Array Bool) (pr pr' : SPrm) (a : Act) (w : World), (∀ p ∈ pr', p ∈ pr) → wpL P ops Q n listed pr a w → wpL P ops Q n listed pr' a w
  | 0, _, _, _, _, _, _, h => h
  | n + 1, _, _, _, _, _, hs, h => ⟨h.1, fun i hi => wpOp_mono (fun a' w' h' => ⟨fun p hp => h'.1 p (kept_sub hs p hp), wpL_weaken n _ _ _ a' w' (kept_sub hs) h'.2⟩) (h.2 i hi)⟩
theorem waits_ready {i j : Nat} {listed : Array Bool} (hj : j ∈ Region.ready .any ops listed) (hi : listed.getD i true = false) : depends ops i j = false := by
  obtain ⟨_, oj, hoj, hall⟩ := mem_ready.1 hj
  unfold depends
  rw [hoj]
  simp only [waits]
  cases hw : (oj.after.any fun e => Region.binds .any e && e.on == i)
  · rfl
  · obtain ⟨e, he, h2⟩ := Array.any_eq_true'.1 hw
    simp only [Bool.and_eq_true, beq_iff_eq] at h2
    have h1 := hall e he h2.1
    rw [h2.2] at h1
    rcases Nat.lt_or_ge i listed.size with h' | h'
    · simp [h'] at hi h1; rw [hi] at h1; cases h1
    · simp [Array.getElem?_eq_none h'] at h1
theorem wpL_first {i : Nat} {oi : Oper} {v : Value} {T : World → Prop} (hi : ops[i]? = some oi) (hsel : ∀ (j : Nat) (o : Oper) cs b, ops[j]? = some o → o.op ≠ .select cs b)
    (hQ : ∀ c a w, Q (.panic c) (a.put oi.dst v) w → Q (.panic c) a w) :
    ∀ (n : Nat) (listed : Array Bool) (pr : SPrm) (a : Act) (w : World),
      (∀ j oj, ops[j]? = some oj → j ≠ i → listed.getD j true = false → (∀ e ∈ oj.after, Region.binds .any e = true → e.on ≠ i) → oi.apart ops oj = true) →
      i ∈ Region.ready .any ops listed → YieldsIf P ops T oi v a → T w → (∀ p ∈ pr, p.2 w) →
      wpL P ops Q n (listed.setIfInBounds i true) ((i, T) :: pr) (a.put oi.dst v) w → wpL P ops Q (n + 1) listed pr a w := by
  intro n
  induction n with
  | zero =>
    intro listed pr a w _ hr hy hT hpr H
    refine ⟨fun h => (by rw [h] at hr; cases hr), fun j hj => ?_⟩
    by_cases hji : j = i
    · subst hji; exact hy.wpOp hi hT ⟨fun p hp => hpr p (List.mem_filter.1 hp).1, H⟩
    · have := ready_mono hj hji
      rw [H.1] at this
      cases this
  | succ n ih =>
    intro listed pr a w hfree hr hy hT hpr H
    refine ⟨fun h => (by rw [h] at hr; cases hr), fun j hj => ?_⟩
    by_cases hji : j = i
    · subst hji
      exact hy.wpOp hi hT ⟨fun p hp => hpr p (List.mem_filter.1 hp).1, wpL_weaken _ _ _ _ _ _ (fun p hp => List.mem_cons_of_mem _ (List.mem_filter.1 hp).1) H⟩
    · have h1 := H.2 j (ready_mono hj hji)
      obtain ⟨hjun, oj, hoj, hall⟩ := mem_ready.1 hj
      have hiun := (mem_ready.1 hr).1
      have hdep := waits_ready hj hiun
      have hnot : ∀ e ∈ oj.after, Region.binds .any e = true → e.on ≠ i := fun e he hb heq => by
        have h1 := hall e he hb
        rw [heq] at h1
        rcases Nat.lt_or_ge i listed.size with h' | h'
        · simp [h'] at hiun h1; rw [hiun] at h1; cases h1
        · simp [Array.getElem?_eq_none h'] at h1
      have hkept : kept ops j ((i, T) :: pr) = (i, T) :: kept ops j pr := by
        unfold kept
        rw [List.filter_cons]
        simp [hdep]
      rw [hkept] at h1
      have h2 := wpOp_putIf hoj (hfree j oj hoj hji hjun hnot) (fun cs b => hsel i oi cs b hi) (fun cs b => hsel j oj cs b hoj) hQ hy h1
      have hfree' : ∀ k ok, ops[k]? = some ok → k ≠ i → (listed.setIfInBounds j true).getD k true = false →
          (∀ e ∈ ok.after, Region.binds .any e = true → e.on ≠ i) → oi.apart ops ok = true := fun k ok hk hki hun hno => by
        refine hfree k ok hk hki ?_ hno
        by_cases hjk : j = k
        · subst hjk; exact hjun
        · rw [getD_set_ne true hjk] at hun; exact hun
      refine wpOp_mono (fun a' w' h3 => ?_) h2
      obtain ⟨h4, h5, h6⟩ := h3
      refine ⟨fun p hp => h5 p (List.mem_cons_of_mem _ hp), ih (listed.setIfInBounds j true) (kept ops j pr) a' w' hfree' (ready_mono hr (Ne.symm hji)) h4 (h5 (i, T) List.mem_cons_self) (fun p hp => h5 p (List.mem_cons_of_mem _ hp)) ?_⟩
      rw [Array.setIfInBounds_comm _ _ hji]
      exact h6

/-! The evaluator over such a region. -/
variable {E : Env} {F : Tm} {h : Hp} {w w0 : World} {G : Nat → Prop} {a : Act}
/-- promises that are met -/
inductive Met (E : Env) (h : Hp) (w : World) : Prm → SPrm → Prop
  | nil : Met E h w [] []
  | pure {pr : Prm} {spr : SPrm} (i : Nat) (T : World → Prop) (hz : ∀ W, (∀ b j v, E.Z b j = some v → W.cell? ⟨b, j, none⟩ = some v) → T W) : Met E h w pr spr → Met E h w pr ((i, T) :: spr)
  | load {pr : Prm} {spr : SPrm} (i b n : Nat) (T : World → Prop) (hl : E.live b) (hc : ver b h = n) (hz : ∀ W, (∀ b j v, E.Z b j = some v → W.cell? ⟨b, j, none⟩ = some v) → W.heap[E.β b]? = w.heap[E.β b]? → T W) :
      Met E h w pr spr → Met E h w ((i, b, n) :: pr) ((i, T) :: spr)
theorem Met.hold (I : Inv P w0 G E h w) {pr : Prm} {spr : SPrm} (H : Met E h w pr spr) : ∀ p ∈ spr, p.2 w := by
  induction H with
  | nil => simp
  | pure i T hz _ ih =>
    intro p hp
    rcases List.mem_cons.1 hp with rfl | hp
    · exact hz w I.z
    · exact ih p hp
  | load i b n T hl hc hz _ ih =>
    intro p hp
    rcases List.mem_cons.1 hp with rfl | hp
    · exact hz w I.z rfl
    · exact ih p hp
theorem Met.step {oj : Oper} {j : Nat} (hj : ops[j]? = some oj) {E' : Env} {h' : Hp} {w' : World} (hs : Stepd P w0 G E h w E' h' w') {pr : Prm} {spr : SPrm} (H : Met E h w pr spr) : keeps h' (keepP oj pr) = true → Met E' h' w' (keepP oj pr) (kept ops j spr) := by
  have hd : ∀ i, depends ops i j = waits i oj := fun i => by unfold depends; rw [hj]
  induction H with
  | nil => intro _; exact .nil
  | pure i T hz _ ih =>
    intro hk
    unfold kept
    rw [List.filter_cons]
    split
    · exact .pure i T (fun W hW => hz W fun b q v hv => hW b q v (hs.ext.Z b q v hv)) (ih hk)
    · exact ih hk
  | load i b n T hl hc hz _ ih =>
    intro hk
    simp only [keepP] at hk ⊢
    unfold kept
    rw [List.filter_cons, hd]
    cases hw : waits i oj
    · rw [hw] at hk
      simp only [cond_false, keeps, Bool.and_eq_true] at hk
      simp only [cond_false, Bool.not_false, if_true]
      have hc' := Nat.eq_of_beq_eq_true hk.1
      refine .load i b n T (hs.ext.live b hl) hc' (fun W hW hb => hz W (fun b q v hv => hW b q v (hs.ext.Z b q v hv)) ?_) (ih hk.2)
      rw [hs.ext.β b hl] at hb
      rw [hb]
      exact (hs.un b hl).2 (by rw [hc', hc])
    · rw [hw] at hk
      simp only [cond_true, Bool.not_true, Bool.false_eq_true, if_false]
      exact ih hk
theorem opnd_setA {d : Nat} {b : Bool} {x : Operand} {o : Nat} (hx : tgt (opnd (setA F d b) x) = some o) : tgt (opnd F x) = some o := by
  cases x with
  | tmp t =>
    simp only [opnd, setA, look_cons] at hx ⊢
    cases hb : Nat.beq d t
    · rw [hb] at hx; exact hx
    · rw [hb] at hx; cases hx
  | const v => exact hx
  | global g => exact hx
  | func f => exact hx
theorem seesO_setA {d : Nat} {b : Bool} {o : Oper} {W : World} (hW : SeesO E F o w W) : SeesO E (setA F d b) o w W := ⟨hW.1, fun x p h1 h2 => hW.2 x p h1 (opnd_setA h2)⟩
theorem evStepEarly_ok {call : FuncId → Spec} {o : Oper} {K : Tm × Hp → Prop} (he : earlyA P o = true) (H : (evStep P call ops o F h).holds K) (I : Inv P w0 G E h w) (hT : RelT E F a) :
    ∃ F' v, K (F', h) ∧ RelT E F' (a.put o.dst v) ∧ YieldsIf P ops (SeesO E F o w) o v a := by
  have go : ∀ F1, RelT E F1 a → (∀ W, SeesO E F o w W → SeesO E F1 o w W) → Region.wanted o (yielded ops a.tmps) = true → (match deferA o F1 with
      | some r => r.bind fun F => .ok (F, h)
      | none => (evOp P call o F1 h).bind fun r => (putA F1 o.dst r.1).bind fun F => .ok (F, r.2) : RT (Tm × Hp)).holds K →
      ∃ F' v, K (F', h) ∧ RelT E F' (a.put o.dst v) ∧ YieldsIf P ops (SeesO E F o w) o v a := fun F1 hT1 hS hw H => by
    have hnd : deferA o F1 = none := by
      unfold deferA
      split
      · rename_i c hc; unfold earlyA at he; rw [hc] at he; cases he
      · rfl
    rw [hnd] at H
    simp only at H
    rw [RT.holds_bind] at H
    obtain ⟨av, v, h1, h2, h3⟩ := evEarly_ok he H I hT1
    rw [RT.holds_bind] at h1
    obtain ⟨F', k1, k2⟩ := putA_ok h1 hT1 h2
    exact ⟨F', v, k1, k2, .inl ⟨hw, fun W hW => h3 W (hS W hW)⟩⟩
  have skip : ∀ F1, RelT E F1 a → Region.wanted o (yielded ops a.tmps) = false → ((putA F1 o.dst (.tup [])).bind fun F => .ok (F, h)).holds K → ∃ F' v, K (F', h) ∧ RelT E F' (a.put o.dst v) ∧ YieldsIf P ops (SeesO E F o w) o v a := fun F1 hT1 hw H => by
    rw [RT.holds_bind] at H
    obtain ⟨F', k1, k2⟩ := putA_ok (u := undef) H hT1 ⟨#[], rfl, rfl⟩
    exact ⟨F', undef, k1, k2, .inr ⟨hw, rfl⟩⟩
  unfold evStep guardA at H
  split at H
  · rename_i hg
    have hw : Region.wanted o (yielded ops a.tmps) = true := by simp [Region.wanted, hg]
    exact go F hT (fun W h => h) hw H
  · rename_i j want hg
    split at H
    · exact H.elim
    · rename_i d hd
      split at H
      · rename_i kn b hl
        have hv := hT.tm d
        rw [hl] at hv
        have hy : yielded ops a.tmps j = some b := by
          unfold yielded
          rw [hd]
          have hv1 := hv.1
          rw [Array.getD_eq_getD_getElem?] at hv1
          cases ht : a.tmps[d]? with
          | none => rw [ht] at hv1; cases hv1
          | some x => rw [ht] at hv1; simp only [Option.getD_some] at hv1; simp [ht, hv1]
        have hwant : Region.wanted o (yielded ops a.tmps) = (b == want) := by
          simp only [Region.wanted, hg, hy]
          cases b <;> cases want <;> rfl
        have hset := setA_ok hT hl
        rcases brk_holds H with ⟨rfl, H2⟩ | ⟨rfl, H2⟩
        · cases want
          · exact skip _ hset (by rw [hwant]; decide) H2
          · exact go _ hset (fun W h => seesO_setA h) (by rw [hwant]; decide) H2
        · cases want
          · exact go _ hset (fun W h => seesO_setA h) (by rw [hwant]; decide) H2
          · exact skip _ hset (by rw [hwant]; decide) H2
      · rename_i hl
        have hv := hT.tm d
        rw [hl] at hv
        obtain ⟨us, hv1, hus⟩ := hv
        have hus : us = #[] := by cases us with | mk l => have : l = [] := hus; subst this; rfl
        subst hus
        have hy : yielded ops a.tmps j = none := by
          unfold yielded
          rw [hd]
          rw [Array.getD_eq_getD_getElem?] at hv1
          cases ht : a.tmps[d]? with
          | none => simp [ht]
          | some x => rw [ht] at hv1; simp only [Option.getD_some] at hv1; simp [ht, hv1]
        have hwant : Region.wanted o (yielded ops a.tmps) = false := by simp [Region.wanted, hg, hy]
        exact skip _ hT hwant H
      · exact H.elim
theorem met_promise {o : Oper} {i : Nat} {pr : Prm} {spr : SPrm} (hT : RelT E F a) (H : Met E h w pr spr) : Met E h w (promise i o F h ++ pr) ((i, SeesO E F o w) :: spr) := by
  have pure' : (∀ x b, rdOf o = some x → tgt (opnd F x) ≠ some b) → Met E h w pr ((i, SeesO E F o w) :: spr) := fun hn => .pure i _ (fun W hW => ⟨hW, fun x b h1 h2 => absurd h2 (hn x b h1)⟩) H
  unfold promise
  split
  · rename_i x hop
    split
    · rename_i b hx
      have hr := rel_opnd hT x
      have hlb : E.live b := by
        revert hx hr
        generalize opnd F x = X
        intro hx hr
        cases X <;> simp only [tgt] at hx <;> cases hx <;> exact hr.1
      refine .load i b _ _ hlb rfl (fun W hW hb => ⟨hW, fun x' b' h1 h2 => ?_⟩) H
      rw [hop] at h1
      injection h1 with h1
      subst h1
      rw [hx] at h2
      injection h2 with h2
      subst h2
      exact hb
    · rename_i hx
      refine pure' fun x' b h1 h2 => ?_
      rw [hop] at h1
      injection h1 with h1
      subst h1
      rw [hx] at h2; cases h2
  · rename_i hop
    exact pure' fun x b h1 _ => by rw [hop] at h1; cases h1
theorem earlyN_ok (o : Oper) (h : earlyN P o = true) : earlyA P o = true := by
  unfold earlyN at h
  split at h
  · cases h
  · exact h
theorem erOf_ok {Λ : FuncId → Nat → Option (Tm → Hp → RT (Ex × Tm × Hp))} {f id : Nat} (o : Oper) (h : erOf P Λ f id o = true) : earlyA P o = true := by
  unfold erOf at h
  cases hl : Λ f (2000 + id) with
  | none => rw [hl] at h; exact h
  | some x => rw [hl] at h; exact earlyN_ok o h
theorem evDrawn_ok {er : Oper → Bool} (her : ∀ o, er o = true → earlyA P o = true) {call : FuncId → Spec} (hcall : CallOk P call) (hns : Region.noSelect ops = true) (hQ : ∀ d v c a w, Q (.panic c) (Act.put a d v) w → Q (.panic c) a w) {K : Tm × Hp → Prop} :
    ∀ (n : Nat) {listed : Array Bool} {pr : Prm} {spr : SPrm} {F : Tm} {h : Hp} {E : Env} {w : World} {a : Act}, (evDrawn P er call ops n listed pr F h).holds K → Inv P w0 G E h w → RelT E F a → Met E h w pr spr→
      Cont P w0 G E h w K (Q .normal) → wpL P ops Q n listed spr a w
  | 0, listed, pr, spr, F, h, E, w, a, H, I, hT, hM, hn => by
    unfold evDrawn at H
    split at H
    · rename_i hr
      exact ⟨hr, hn _ _ _ _ _ H (Stepd.refl I) hT⟩
    · exact H.elim
  | n + 1, listed, pr, spr, F, h, E, w, a, H, I, hT, hM, hn => by
    unfold evDrawn at H
    simp only at H
    split at H
    · rename_i i hfind
      split at H
      · rename_i o ho
        cases hf : Region.free .any ops listed i
        · rw [hf] at H; exact H.elim
        rw [hf] at H
        simp only [cond_true] at H
        have he : earlyA P o = true := by
          have := List.find?_some hfind
          rw [ho] at this
          exact her o this
        have hir : i ∈ Region.ready .any ops listed := List.mem_of_find?_eq_some hfind
        rw [RT.holds_bind] at H
        obtain ⟨F', v, k1, k2, k3⟩ := evStepEarly_ok he H I hT
        have hM' := met_promise (i := i) (o := o) hT hM
        have hself : SeesO E F o w w := seesO_self I o
        exact wpL_first ho (Region.noSelect_spec hns) (hQ _ _) n listed spr a w (Region.free_spec ho hf) hir k3 hself (hM.hold I)
          (evDrawn_ok her hcall hns hQ n k1 I k2 hM' hn)
      · exact H.elim
    · rename_i hnone
      have one : ∀ i, (match ops[i]? with
          | some o => (evStep P call ops o F h).bind fun r => bif keeps r.2 (keepP o pr) then evDrawn P er call ops n (listed.setIfInBounds i true) (keepP o pr) r.1 r.2 else .bad 98
          | none => .bad 99 : RT (Tm × Hp)).holds K → wpOp P ops Q i (fun a' w' => (∀ p ∈ kept ops i spr, p.2 w') ∧ wpL P ops Q n (listed.setIfInBounds i true) (kept ops i spr) a' w') a w := fun i Hi => by
        split at Hi
        · rename_i o ho
          rw [RT.holds_bind] at Hi
          unfold wpOp
          rw [ho]
          refine evStep_ok hcall Hi I hT fun F' h' E' a' w' hk hs hT' => ?_
          cases hkp : keeps h' (keepP o pr)
          · rw [hkp] at hk; exact hk.elim
          · rw [hkp] at hk
            have hM' := hM.step ho hs hkp
            exact ⟨hM'.hold hs.inv, evDrawn_ok her hcall hns hQ n hk hs.inv hT' hM' (hn.step hs)⟩
        · exact Hi.elim
      split at H
      · rename_i hr
        exact ⟨fun _ => hn _ _ _ _ _ H (Stepd.refl I) hT, by rw [hr]; simp⟩
      · rename_i i hr
        refine ⟨(fun h0 => by rw [hr] at h0; cases h0), ?_⟩
        rw [hr]
        intro j hj
        obtain rfl : j = i := by simpa using hj
        exact one _ H
      · rename_i i j hr
        refine ⟨(fun h0 => by rw [hr] at h0; cases h0), ?_⟩
        rw [hr]
        intro q hq
        rcases (by simpa using hq : q = i ∨ q = j) with rfl | rfl
        · exact one _ H.1
        · exact one _ H.2
      · rename_i i j k hr
        refine ⟨(fun h0 => by rw [hr] at h0; cases h0), ?_⟩
        rw [hr]
        intro q hq
        rcases (by simpa using hq : q = i ∨ q = j ∨ q = k) with rfl | rfl | rfl
        · exact one _ H.1
        · exact one _ H.2.1
        · exact one _ H.2.2
      · rename_i i j k l hr
        refine ⟨(fun h0 => by rw [hr] at h0; cases h0), ?_⟩
        rw [hr]
        intro q hq
        rcases (by simpa using hq : q = i ∨ q = j ∨ q = k ∨ q = l) with rfl | rfl | rfl | rfl
        · exact one _ H.1
        · exact one _ H.2.1
        · exact one _ H.2.2.1
        · exact one _ H.2.2.2
      · exact H.elim
end
end
end Go.Proofs.YtdlomggjhclmlaaGreatDoor
