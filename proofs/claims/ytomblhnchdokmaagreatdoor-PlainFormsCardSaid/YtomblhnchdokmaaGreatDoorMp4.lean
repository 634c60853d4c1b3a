/- Mp4: texts of this claim, one behind the other: Ev8 Ev9 EvP EvL. No condition. -/
import Derived.Test.YtomblhnchdokmaaGreatDoorMp3
namespace Go.Proofs.YtomblhnchdokmaaGreatDoor
set_option linter.unusedSimpArgs false
set_option linter.unusedVariables false
open Go.RowKit
set_option maxRecDepth 10000
noncomputable section

/-- what calls answer is right -/
def CallOk (P : Program) (call : FuncId → Spec) : Prop := ∀ g args h K, (call g args h).holds K → ((plainF P g).isSome = true ∧ noGor P = true) ∧ ∀ w0 G E w vals, Inv P w0 G E h w → RelL E args vals →
  Calls P g vals.toArray w fun e w' => ∃ r h' v E', K (r, h') ∧ e = .returned v ∧ Stepd P w0 G E h w E' h' w' ∧ Rel E' r v
theorem callFunc_plain {P : Program} {g : FuncId} {vals : Array Value} {w : World} (hh : (plainF P g).isSome = true ∧ noGor P = true) : (callFunc g vals).run P w = .ok (.enter g vals) w := by
  obtain ⟨h, hng⟩ := hh
  unfold plainF at h
  split at h
  · rename_i fn hf
    split at h
    · rename_i c hc
      have hmem : fn ∈ P.funcs.toList := by
        obtain ⟨hlt, he⟩ := Array.getElem?_eq_some_iff.1 hf
        exact he ▸ Array.getElem_mem_toList hlt
      have hn := List.all_eq_true.1 hng fn hmem
      have hn' : ¬ fn.name = "runtime.NumGoroutine" := by simpa using hn
      simp [callFunc, hf, hn', hc]
    · cases h
  · cases h

section
variable {P : Program} {E : Env} {F : Tm} {h : Hp} {w w0 : World} {G : Nat → Prop} {a : Act} {Q : Exit → Act → World → Prop}

theorem v_holds {r : RT AV} {K : AV × Hp → Prop} (H : (r.bind fun a => .ok (a, h)).holds K) : r.holds fun a => K (a, h) := by rw [RT.holds_bind] at H; exact H
/-- a world in which an operation reads what it reads in w -/
def SeesO (E : Env) (F : Tm) (o : Oper) (w W : World) : Prop := (∀ b j v, E.Z b j = some v → W.cell? ⟨b, j, none⟩ = some v) ∧ ∀ x b, rdOf o = some x → tgt (opnd F x) = some b → W.heap[E.β b]? = w.heap[E.β b]?
set_option maxHeartbeats 1000000 in
theorem evEarly_ok {call : FuncId → Spec} {o : Oper} {K : AV × Hp → Prop} (he : earlyA P o = true) (H : (evOp P call o F h).holds K) (I : Inv P w0 G E h w) (hT : RelT E F a) :
    ∃ av v, K (av, h) ∧ Rel E av v ∧ ∀ W, SeesO E F o w W → (execOp a.eval o).run P W = .ok (.value v) W := by
  have val : ∀ {s : Sem Value}, execOp a.eval o = (do pure (.value (← s))) → (∃ av u, K (av, h) ∧ (∀ W, s.run P W = .ok u W) ∧ Rel E av u) → ∃ av v, K (av, h) ∧ Rel E av v ∧ ∀ W, SeesO E F o w W → (execOp a.eval o).run P W = .ok (.value v) W := by
    rintro s hs ⟨av, u, h1, h2, h3⟩
    refine ⟨av, u, h1, h3, fun W _ => ?_⟩
    rw [hs]
    simp only [Sem.run_bind, h2, Result.andThen_ok, Sem.run_pure]
  have pur : ∀ {av : AV} {v : Value}, execOp a.eval o = pure (.value v) → K (av, h) → Rel E av v → ∃ av v, K (av, h) ∧ Rel E av v ∧ ∀ W, SeesO E F o w W → (execOp a.eval o).run P W = .ok (.value v) W := by
    intro av v hs h1 h2
    refine ⟨av, v, h1, h2, fun W _ => ?_⟩
    rw [hs]
    rfl
  obtain ⟨dst, op, type, pos, after, guard⟩ := o
  cases op <;> simp only [evOp] at H <;> first | (exact H.elim) | skip
  case alloc e => cases he
  case box e x => cases he
  case makeMap t r => cases he
  case lookup t m k two => cases he
  case mapUpdate t m k x => cases he
  case mapEntry t m k => cases he
  case range t x => cases he
  case next it b => cases he
  case entry it => cases he
  case entryStore t m s x => cases he
  case buildSlice t n ps => cases he
  case makeSlice t l c => cases he
  case store t x y => cases he
  case move x => exact pur rfl H (rel_opnd hT x)
  case assign x => exact pur rfl H (rel_opnd hT x)
  case pick c x y =>
    have hc := rel_opnd hT c
    split at H
    · rename_i kn b hcb
      rw [hcb] at hc
      have hcv : a.eval c = .bool b := hc.1
      rcases brk_holds H with ⟨rfl, H2⟩ | ⟨rfl, H2⟩
      · exact pur (v := a.eval x) (by simp only [execOp, hcv]; rfl) H2 (rel_opnd hT x)
      · exact pur (v := a.eval y) (by simp only [execOp, hcv]; rfl) H2 (rel_opnd hT y)
    · exact H.elim
  case build t ps => exact val (s := Instr.build t _) rfl (buildA_ok (by simp) hT (v_holds H))
  case load t x =>
    obtain ⟨av, u, h1, h2, h3⟩ := loadA_ok (v_holds H) I (rel_opnd hT x)
    refine ⟨av, u, h1, h3, fun W hW => ?_⟩
    have := h2 W ⟨hW.1, fun o hx => hW.2 x o rfl hx⟩
    simp only [execOp, Sem.run_bind, this, Result.andThen_ok, Sem.run_pure]
  case nilCheck x =>
    have hx := rel_opnd hT x
    split at H
    · rename_i o off hxo
      rw [hxo] at hx
      obtain ⟨hl, hv⟩ := hx
      exact pur (v := a.eval x) (by simp only [execOp, hv]) H ⟨hl, hv⟩
    · rename_i kn es d j hxo
      rw [hxo] at hx
      obtain ⟨b, o, hv, he⟩ := hx
      exact pur (v := a.eval x) (by simp only [execOp, hv]) H ⟨b, o, hv, he⟩
    · rename_i kn o n i j hxo
      rw [hxo] at hx
      obtain ⟨hl, hv⟩ := hx
      exact pur (v := a.eval x) (by simp only [execOp, hv]) H ⟨hl, hv⟩
    · rename_i cs hxo
      rw [hxo] at hx
      obtain ⟨vs, b, o, h1, h2, hv, h3⟩ := hx
      exact pur (v := a.eval x) (by simp only [execOp, hv]) H ⟨vs, b, o, h1, h2, hv, h3⟩
    · rename_i f c d hxo
      rw [hxo] at hx
      obtain ⟨a', c', hv, g1, g2⟩ := hx
      have hv : a.eval x = .func (.func f) a' c' := hv
      exact pur (v := a.eval x) (by simp only [execOp, hv]) H ⟨a', c', hv, g1, g2⟩
    · exact H.elim
  case binOp op t x y yt => exact val (s := do eqGuard op t x y (a.eval x) (a.eval y); Go.binOp op t (a.eval x) (a.eval y)) rfl (binA_ok (v_holds H) (rel_opnd hT x) (rel_opnd hT y))
  case unOp op t x => exact val (s := Op.unary op (a.eval x)) rfl (unA_ok (v_holds H) (rel_opnd hT x))
  case convert s d x =>
    have hto : isToB P s d = false := by
      have h1 : (!(isToB P s d)) = true := he
      simpa using h1
    rw [hto] at H
    simp only [cond_false] at H
    obtain ⟨av, u, h1, h2, h3⟩ := convA_ok (v_holds H) I (rel_opnd hT x)
    refine ⟨av, u, h1, h3, fun W hW => ?_⟩
    have := h2 W ⟨hW.1, fun o hx => hW.2 x o rfl hx⟩
    simp only [execOp, Sem.run_bind, this, Result.andThen_ok, Sem.run_pure]
  case makeFunc f x c =>
    cases f <;> first | (exact H.elim) | skip
    rename_i f
    refine val (s := Instr.makeFunc (.func f) (x.map a.eval) (c.map a.eval)) rfl ⟨_, _, H, fun W => rfl, _, _, rfl, ?_, ?_⟩
    · simpa using rel_map hT x.toList
    · simpa using rel_map hT c.toList
  case slice t x lo hi mx => exact val (s := Instr.sliceAt t (a.eval x) (lo.map a.eval) (hi.map a.eval) (mx.map a.eval)) rfl (sliceA_ok hT (v_holds H) (rel_opnd hT x))
  case fieldAddr s x f => exact val (s := Instr.fieldAt s (a.eval x) f) rfl (fieldAddrA_ok (v_holds H) (rel_opnd hT x))
  case indexAddr t x i => exact val (s := Instr.indexAt t (a.eval x) (a.eval i)) rfl (indexAddrA_ok (v_holds H) (rel_opnd hT x) (rel_opnd hT i))
  case index t x i => exact val (s := Instr.index t (a.eval x) (a.eval i)) rfl (indexA_ok (v_holds H) (rel_opnd hT x) (rel_opnd hT i))
  case field t x f => exact val (s := Instr.field t (a.eval x) f) rfl (fieldA_ok (v_holds H) (rel_opnd hT x))
  case extract t i =>
    have ht := rel_opnd hT t
    split at H
    · rename_i vs hvs
      rw [hvs] at ht
      obtain ⟨vs', hv, hr⟩ := ht
      split at H
      · rename_i av hi
        obtain ⟨u, hu, hru⟩ := RelL.get hr hi
        have hu' : vs'[i]? = some u := by simpa using hu
        refine val (s := Instr.extract (a.eval t) i) rfl ⟨av, u, H, fun W => ?_, hru⟩
        simp [Instr.extract, hv, hu']
      · exact H.elim
    · exact H.elim
  case call c =>
    obtain ⟨callee, args, ts⟩ := c
    cases callee with
    | invoke r m => exact H.elim
    | value f => cases he
    | builtin b =>
      simp only at H
      have hexec : ∀ s : Sem Value, Go.builtin b ts type (args.map fun | .const _ => true | _ => false) (args.map a.eval) = (do pure (.value (← s))) → execOp a.eval { dst := dst, op := .call ⟨.builtin b, args, ts⟩, type := type, pos := pos, after := after, guard := guard } = (do pure (.value (← s))) := fun s hs => by
        simp only [execOp, resolve]
        exact hs
      unfold builtinA at H
      split at H
      · rename_i x hx
        have hmt : isMapT P ts = false := by
          have h1 : (!(isMapT P ts)) = true := he
          simpa using h1
        rw [hmt] at H
        simp only [cond_false] at H
        split at H
        · rename_i t ht
          have H := v_holds H
          obtain ⟨y, hy⟩ : ∃ y, args.toList = [y] := by
            cases hl : args.toList with
            | nil => rw [hl] at hx; cases hx
            | cons y l => cases l with
              | nil => exact ⟨y, rfl⟩
              | cons _ _ => rw [hl] at hx; simp at hx
          rw [hy] at hx
          simp only [List.map_cons, List.map_nil, List.cons.injEq, and_true] at hx
          have hargs : args.map a.eval = #[a.eval y] := by apply Array.ext'; simp [hy]
          have hts : ts = #[t] := by apply Array.ext'; simpa using ht
          have hxr := rel_opnd hT y
          rw [hx] at hxr
          refine val (hexec (Builtin.len_ ts type (args.map a.eval)) rfl) ?_
          rw [hargs, hts]
          exact lenA_ok H hxr
        · exact H.elim
      · cases he
      · cases he
      · cases he
      · have H := v_holds H
        refine val (hexec (Builtin.min_ ts type (args.map a.eval)) rfl) ?_
        have := minA_ok (P := P) (ts := ts) (ty := type) hT H
        rwa [show ((args.toList.map a.eval).toArray) = args.map a.eval by apply Array.ext'; simp] at this
      · have H := v_holds H
        refine val (hexec (Builtin.max_ ts type (args.map a.eval)) rfl) ?_
        have := maxA_ok (P := P) (ts := ts) (ty := type) hT H
        rwa [show ((args.toList.map a.eval).toArray) = args.map a.eval by apply Array.ext'; simp] at this
      · exact H.elim
theorem seesO_self (I : Inv P w0 G E h w) (o : Oper) : SeesO E F o w w := ⟨I.z, fun _ _ _ _ => rfl⟩
set_option maxHeartbeats 1000000 in
theorem evOp_ok {call : FuncId → Spec} (hcall : CallOk P call) {o : Oper} {K : AV × Hp → Prop} {next : Act → World → Prop} (H : (evOp P call o F h).holds K) (I : Inv P w0 G E h w) (hT : RelT E F a)
    (hn : ∀ av h' v w' E', K (av, h') → Stepd P w0 G E h w E' h' w' → Rel E' av v → next (a.put o.dst v) w') : o.wp P a w next Q := by
  cases he : earlyA P o
  case true =>
    obtain ⟨av, v, h1, h2, h3⟩ := evEarly_ok he H I hT
    unfold Oper.wp
    rw [h3 w (seesO_self I o), Oper.upon_value]
    exact hn _ _ _ _ _ h1 (Stepd.refl I) h2
  have chg : ∀ {s : Sem Value}, execOp a.eval o = (do pure (.value (← s))) → (∃ av h' u w' E', K (av, h') ∧ s.run P w = .ok u w' ∧ Stepd P w0 G E h w E' h' w' ∧ Rel E' av u) → o.wp P a w next Q := by
    rintro s hs ⟨av, h', u, w', E', h1, h2, h3, h4⟩
    unfold Oper.wp
    rw [hs]
    simp only [Sem.run_bind, h2, Result.andThen_ok, Sem.run_pure, Oper.upon_value]
    exact hn _ _ _ _ _ h1 h3 h4
  obtain ⟨dst, op, type, pos, after, guard⟩ := o
  cases op <;> simp only [evOp] at H <;> first | (exact H.elim) | (cases he; done) | skip
  case alloc e =>
    split at H
    · rename_i cs hz
      obtain ⟨z, hzr, _, g1, g2⟩ := zeroA_ok (E := E) hz
      obtain ⟨E', h1, h2⟩ := newA_ok (h := h) e I g1 g2
      refine chg (s := Instr.alloc e true (.tuple #[])) rfl ⟨_, _, _, _, E', H, ?_, h1, h2⟩
      simp [Instr.alloc, hzr, newVar, newRow, newObj]
      rfl
    · exact H.elim
  case box e x =>
    split at H
    · rename_i cs hc
      obtain ⟨g1, g2⟩ := rel_cells (rel_opnd hT x) hc
      obtain ⟨E', h1, h2⟩ := newA_ok (h := h) e I g1 g2
      refine chg (s := Instr.box e (a.eval x)) rfl ⟨_, _, _, _, E', H, ?_, h1, h2⟩
      simp [Instr.box, newVar, newRow, newObj]
      rfl
    · exact H.elim
  case buildSlice t n ps => exact chg (s := Instr.buildSlice t n _) rfl (buildSliceA_ok (by simp) hT I H)
  case makeSlice t l c => exact chg (s := Instr.makeSlice t (a.eval l) (a.eval c)) rfl (makeB_ok H I (rel_opnd hT l) (rel_opnd hT c))
  case makeMap t r =>
    cases r with
    | none =>
      obtain ⟨E', h1, h2⟩ := newM_ok I
      refine chg (s := Instr.makeMap t none) rfl ⟨_, _, _, _, E', H, ?_, h1, h2⟩
      simp [Instr.makeMap, newObj]
      rfl
    | some r => exact H.elim
  case convert s d x =>
    have hto : isToB P s d = true := by
      have h1 : (!(isToB P s d)) = false := he
      simpa using h1
    rw [hto] at H
    exact chg (s := Go.convert s d (a.eval x)) rfl (toBA_ok H hto I (rel_opnd hT x))
  case range t x => exact chg (s := Instr.range t (a.eval x)) rfl (rangeA_ok H I (rel_opnd hT x))
  case next it b =>
    cases b with
    | true => exact H.elim
    | false => exact chg (s := Instr.next (a.eval it) false type) rfl (nextA_ok H I (rel_opnd hT it))
  case entry it => exact chg (s := Instr.entry (a.eval it)) rfl (entryI_ok H I (rel_opnd hT it))
  case mapEntry t m k => exact chg (s := Instr.mapEntry t (a.eval m) (a.eval k)) rfl (entryA_ok H I (rel_opnd hT m) (rel_opnd hT k))
  case entryStore t m s x =>
    rw [RT.holds_bind] at H
    obtain ⟨h', w', h1, h2, h3⟩ := entryPutA_ok (t := t) H I (rel_opnd hT m) (rel_opnd hT s) (rel_opnd hT x)
    unfold Oper.wp
    have : (execOp a.eval { dst := dst, op := .entryStore t m s x, type := type, pos := pos, after := after, guard := guard }).run P w = .ok .skip w' := by
      simp only [execOp, Sem.run_bind, h2, Result.andThen_ok, Sem.run_pure]
    rw [this, Oper.upon_skip]
    exact hn _ _ _ _ _ h1 h3 trivial
  case lookup t m k two =>
    obtain ⟨av, u, h1, h2, h3⟩ := lookupA_ok (v_holds H) I (rel_opnd hT m) (rel_opnd hT k)
    exact chg (s := Instr.lookup t (a.eval m) (a.eval k) two) rfl ⟨_, _, _, _, E, h1, h2, Stepd.refl I, h3⟩
  case mapUpdate t m k x =>
    rw [RT.holds_bind] at H
    obtain ⟨h', w', h1, h2, h3⟩ := updateA_ok H I (rel_opnd hT m) (rel_opnd hT k) (rel_opnd hT x)
    unfold Oper.wp
    have : (execOp a.eval { dst := dst, op := .mapUpdate t m k x, type := type, pos := pos, after := after, guard := guard }).run P w = .ok .skip w' := by
      simp only [execOp, Sem.run_bind, h2, Result.andThen_ok, Sem.run_pure]
    rw [this, Oper.upon_skip]
    exact hn _ _ _ _ _ h1 h3 trivial
  case store t x y =>
    rw [RT.holds_bind] at H
    obtain ⟨h', w', h1, h2, h3⟩ := storeA_ok H I (rel_opnd hT x) (rel_opnd hT y)
    unfold Oper.wp
    have : (execOp a.eval { dst := dst, op := .store t x y, type := type, pos := pos, after := after, guard := guard }).run P w = .ok .skip w' := by
      simp only [execOp, Sem.run_bind, h2, Result.andThen_ok, Sem.run_pure]
    rw [this, Oper.upon_skip]
    exact hn _ _ _ _ _ h1 h3 trivial
  case call c =>
    obtain ⟨callee, args, ts⟩ := c
    cases callee with
    | invoke r m => exact H.elim
    | value f =>
      have hf := rel_opnd hT f
      simp only at H
      split at H
      · rename_i g x cap hfo
        rw [hfo] at hf
        obtain ⟨x', cap', hv, g1, g2⟩ := hf
        simp only [ylF] at hv
        obtain ⟨hpl, hc⟩ := hcall _ _ _ _ H
        have hrel := (g1.append (rel_map hT args.toList)).append g2
        have hC := hc w0 G E w _ I hrel
        unfold Oper.wp
        have hrun : (execOp a.eval { dst := dst, op := .call ⟨.value f, args, ts⟩, type := type, pos := pos, after := after, guard := guard }).run P w = .ok (.enter g (x'.toList ++ args.toList.map a.eval ++ cap'.toList).toArray) w := by
          have harr : (x' ++ args.map a.eval) ++ cap' = (x'.toList ++ args.toList.map a.eval ++ cap'.toList).toArray := by
            apply Array.ext'; simp
          simp only [execOp, resolve, hv, Deferred.ofValue, Sem.run_bind, Sem.run_pure, Result.andThen_ok, invoke]
          rw [callFunc_plain hpl, harr]
        rw [hrun, Oper.upon_enter]
        refine hC.mono ?_
        rintro e w' ⟨r, h', v, E', k1, rfl, k2, k3⟩
        exact hn _ _ _ _ _ k1 k2 k3
      · exact H.elim
    | builtin b =>
      simp only at H
      have hexec : ∀ s : Sem Value, Go.builtin b ts type (args.map fun | .const _ => true | _ => false) (args.map a.eval) = (do pure (.value (← s))) → execOp a.eval { dst := dst, op := .call ⟨.builtin b, args, ts⟩, type := type, pos := pos, after := after, guard := guard } = (do pure (.value (← s))) := fun s hs => by
        simp only [execOp, resolve]
        exact hs
      unfold builtinA at H
      split at H
      · rename_i x hx
        have hmt : isMapT P ts = true := by
          have h1 : (!(isMapT P ts)) = false := he
          simpa using h1
        rw [hmt] at H
        simp only [cond_true] at H
        obtain ⟨y, hy⟩ : ∃ y, args.toList = [y] := by
          cases hl : args.toList with
          | nil => rw [hl] at hx; cases hx
          | cons y l => cases l with
            | nil => exact ⟨y, rfl⟩
            | cons _ _ => rw [hl] at hx; simp at hx
        rw [hy] at hx
        simp only [List.map_cons, List.map_nil, List.cons.injEq, and_true] at hx
        have hargs : args.map a.eval = #[a.eval y] := by apply Array.ext'; simp [hy]
        have hxr := rel_opnd hT y
        rw [hx] at hxr
        refine chg (hexec (Builtin.len_ ts type (args.map a.eval)) rfl) ?_
        rw [hargs]
        exact lenM_ok H hmt I hxr
      · rename_i m k hx
        split at H
        · rename_i t tr ht
          rw [RT.holds_bind] at H
          obtain ⟨y, z, hy⟩ : ∃ y z, args.toList = [y, z] := by
            cases hl : args.toList with
            | nil => rw [hl] at hx; cases hx
            | cons y l => cases l with
              | nil => rw [hl] at hx; simp at hx
              | cons z l => cases l with
                | nil => exact ⟨y, z, rfl⟩
                | cons _ _ => rw [hl] at hx; simp at hx
          rw [hy] at hx
          simp only [List.map_cons, List.map_nil, List.cons.injEq, and_true] at hx
          have hargs : args.map a.eval = #[a.eval y, a.eval z] := by apply Array.ext'; simp [hy]
          have hts : ts[0]? = some t := by rw [← Array.getElem?_toList, ht]; rfl
          have h1 := rel_opnd hT y
          have h2 := rel_opnd hT z
          rw [hx.1] at h1
          rw [hx.2] at h2
          obtain ⟨h', w', k1, k2, k3⟩ := deleteA_ok (ty := type) H I h1 h2 ts hts
          refine chg (hexec (Builtin.delete_ ts type (args.map a.eval)) rfl) ⟨_, _, .tuple #[], _, E, k1, ?_, k3, trivial⟩
          rw [hargs]
          exact k2
        · exact H.elim
      · rename_i s x hx
        split at H
        · rename_i t t' ht
          cases hb : Nat.beq t t'
          · rw [hb] at H; exact H.elim
          rw [hb] at H
          simp only [cond_true] at H
          obtain rfl := Nat.eq_of_beq_eq_true hb
          obtain ⟨y, z, hy⟩ : ∃ y z, args.toList = [y, z] := by
            cases hl : args.toList with
            | nil => rw [hl] at hx; cases hx
            | cons y l => cases l with
              | nil => rw [hl] at hx; simp at hx
              | cons z l => cases l with
                | nil => exact ⟨y, z, rfl⟩
                | cons _ _ => rw [hl] at hx; simp at hx
          rw [hy] at hx
          simp only [List.map_cons, List.map_nil, List.cons.injEq, and_true] at hx
          have hargs : args.map a.eval = #[a.eval y, a.eval z] := by apply Array.ext'; simp [hy]
          have hts : ts = #[t, t] := by apply Array.ext'; simpa using ht
          have h1 := rel_opnd hT y
          have h2 := rel_opnd hT z
          rw [hx.1] at h1
          rw [hx.2] at h2
          refine chg (hexec (Builtin.append_ ts type (args.map a.eval)) rfl) ?_
          rw [hargs, hts]
          cases hre : rowE P t s x
          case true =>
            rw [hre] at H
            obtain h1' := rowE_nil hre h1
            rw [h1']
            exact appendR_ok H I h2
          rw [hre] at H
          simp only [cond_false] at H
          cases hg : isG (normS (shE P ((elemA P t).getD 0)) x s) || isG x || !(shapely P t)
          · rw [hg] at H; exact appendA_ok H I (normS_rel h1) h2
          · rw [hg] at H; exact appendG_ok H I h1 h2
        · exact H.elim
      · rename_i s x hx
        split at H
        · rename_i t t' ht
          cases hb : Nat.beq t t'
          · rw [hb] at H; exact H.elim
          rw [hb] at H
          simp only [cond_true] at H
          obtain rfl := Nat.eq_of_beq_eq_true hb
          obtain ⟨y, z, hy⟩ : ∃ y z, args.toList = [y, z] := by
            cases hl : args.toList with
            | nil => rw [hl] at hx; cases hx
            | cons y l => cases l with
              | nil => rw [hl] at hx; simp at hx
              | cons z l => cases l with
                | nil => exact ⟨y, z, rfl⟩
                | cons _ _ => rw [hl] at hx; simp at hx
          rw [hy] at hx
          simp only [List.map_cons, List.map_nil, List.cons.injEq, and_true] at hx
          have hargs : args.map a.eval = #[a.eval y, a.eval z] := by apply Array.ext'; simp [hy]
          have hts : ts = #[t, t] := by apply Array.ext'; simpa using ht
          have h1 := rel_opnd hT y
          have h2 := rel_opnd hT z
          rw [hx.1] at h1
          rw [hx.2] at h2
          refine chg (hexec (Builtin.copy_ ts type (args.map a.eval)) rfl) ?_
          rw [hargs, hts]
          cases hrs : isRsl s
          · rw [hrs] at H; exact copyA_ok H I h1 h2
          · rw [hrs] at H; exact copyR_ok H I h1 h2
        · exact H.elim
      · cases he
      · cases he
      · exact H.elim

theorem setA_ok (hT : RelT E F a) {d : Nat} {kn b : Bool} (hl : look d F.tm = .sc kn (.bool b)) : RelT E (setA F d b) a := by
  refine ⟨hT.sz, fun i => ?_, hT.df⟩
  have h0 := hT.tm d
  rw [hl] at h0
  simp only [setA, look_cons]
  cases hb : Nat.beq d i
  · exact hT.tm i
  · obtain rfl := Nat.eq_of_beq_eq_true hb
    exact ⟨h0.1, rfl⟩
theorem putA_ok {K : Tm → Prop} {dst : Option Tmp} {v : AV} {u : Value} (H : (putA F dst v).holds K) (hT : RelT E F a) (hr : Rel E v u) : ∃ F', K F' ∧ RelT E F' (a.put dst u) := by
  unfold putA at H
  split at H
  · exact ⟨F, H, hT⟩
  · rename_i d
    cases hb : Nat.blt d F.nt
    · rw [hb] at H; exact H.elim
    · rw [hb] at H
      refine ⟨_, H, by simp only [Act.put, Array.size_setIfInBounds]; exact hT.sz, fun i => ?_, hT.df⟩
      have hd : d < a.tmps.size := by rw [hT.sz]; exact Nat.lt_of_lt_of_le (Nat.lt_succ_self d) (Nat.le_of_ble_eq_true hb)
      simp only [look_cons, Act.put]
      cases hi : Nat.beq d i
      · have : d ≠ i := fun e => by rw [e] at hi; simp at hi
        have h2 := hT.tm i
        rw [Array.getD_eq_getD_getElem?] at h2 ⊢
        rw [Array.getElem?_setIfInBounds_ne this]
        exact h2
      · obtain rfl := Nat.eq_of_beq_eq_true hi
        rw [Array.getD_eq_getD_getElem?, Array.getElem?_setIfInBounds_self_of_lt hd]
        exact hr
theorem put_defers {dst : Option Tmp} {u : Value} : (a.put dst u).defers = a.defers := by unfold Act.put; split <;> rfl
theorem deferA_ok {K : Tm → Prop} {o : Oper} {r : RT Tm} (hr : deferA o F = some r) (H : r.holds K) (hT : RelT E F a) : ∃ F' d, K F' ∧ RelT E F' ({ a with defers := d :: a.defers }.put o.dst undef) ∧ (execOp a.eval o).run P w = .ok (.defer d) w := by
  unfold deferA at hr
  split at hr
  · rename_i c hc
    cases hr
    obtain ⟨callee, args, ts⟩ := c
    cases callee with
    | invoke _ _ => exact H.elim
    | builtin _ => exact H.elim
    | value f =>
      simp only at H
      have hf := rel_opnd hT f
      split at H
      · rename_i g x cap hfo
        rw [hfo] at hf
        obtain ⟨x', cap', hv, g1, g2⟩ := hf
        simp only [ylF] at hv
        have hT' : RelT E { F with df := (g, x ++ args.toList.map (opnd F) ++ cap) :: F.df } { a with defers := ⟨.fn (.func g) cap', x' ++ args.map a.eval⟩ :: a.defers } :=
          ⟨hT.sz, hT.tm, hT.df.1, _, _, _, rfl, by simpa using (g1.append (rel_map hT args.toList)).append g2, hT.df.2⟩
        obtain ⟨F', k1, k2⟩ := putA_ok (u := undef) H hT' trivial
        refine ⟨F', _, k1, k2, ?_⟩
        simp only [execOp, hc, resolve, hv, Deferred.ofValue, Sem.run_bind, Sem.run_pure, Result.andThen_ok]
      · exact H.elim
  · cases hr
/-- what follows a step -/
def Cont (P : Program) (w0 : World) (G : Nat → Prop) (E : Env) (h : Hp) (w : World) (K : Tm × Hp → Prop) (next : Act → World → Prop) : Prop :=
  ∀ F' h' E' a' w', K (F', h') → Stepd P w0 G E h w E' h' w' → RelT E' F' a' → next a' w'
theorem evStep_ok {call : FuncId → Spec} (hcall : CallOk P call) {ops : Array Oper} {o : Oper} {K : Tm × Hp → Prop} {next : Act → World → Prop} (H : (evStep P call ops o F h).holds K) (I : Inv P w0 G E h w) (hT : RelT E F a)
    (hn : Cont P w0 G E h w K next) : if Region.wanted o (yielded ops a.tmps) = true then o.wp P a w next Q ∨ (o.asks P a w ∧ LetsOut Q) else next (a.put o.dst undef) w := by
  have go : ∀ F, RelT E F a → (match deferA o F with
      | some r => r.bind fun F => .ok (F, h)
      | none => (evOp P call o F h).bind fun r => (putA F o.dst r.1).bind fun F => .ok (F, r.2) : RT (Tm × Hp)).holds K → o.wp P a w next Q := fun F hT H => by
    split at H
    · rename_i r hr
      rw [RT.holds_bind] at H
      obtain ⟨F', a', h1, h2, h3⟩ := deferA_ok hr H hT
      unfold Oper.wp
      rw [h3, Oper.upon_defer]
      exact hn _ _ _ _ _ h1 (Stepd.refl I) h2
    rw [RT.holds_bind] at H
    refine evOp_ok hcall H I hT fun av h' v w' E' hk hs hr => ?_
    rw [RT.holds_bind] at hk
    obtain ⟨F', k1, k2⟩ := putA_ok hk (hT.mono hs.ext) hr
    exact hn _ _ _ _ _ k1 hs k2
  have skip : ∀ F, RelT E F a → ((putA F o.dst (.tup [])).bind fun F => .ok (F, h)).holds K → next (a.put o.dst undef) w := fun F hT H => by
    rw [RT.holds_bind] at H
    obtain ⟨F', k1, k2⟩ := putA_ok (u := undef) H hT ⟨#[], rfl, rfl⟩
    exact hn _ _ _ _ _ k1 (Stepd.refl I) k2
  unfold evStep guardA at H
  split at H
  · rename_i hg
    have hw : Region.wanted o (yielded ops a.tmps) = true := by simp [Region.wanted, hg]
    rw [if_pos hw]
    exact .inl (go F hT H)
  · rename_i j want hg
    split at H
    · exact H.elim
    · rename_i d hd
      split at H
      · rename_i kn b hl
        have hv := hT.tm d
        rw [hl] at hv
        have hy : yielded ops a.tmps j = some b := by
          unfold yielded
          rw [hd]
          have hv1 := hv.1
          rw [Array.getD_eq_getD_getElem?] at hv1
          cases ht : a.tmps[d]? with
          | none => rw [ht] at hv1; cases hv1
          | some x => rw [ht] at hv1; simp only [Option.getD_some] at hv1; simp [ht, hv1]
        have hwant : Region.wanted o (yielded ops a.tmps) = (b == want) := by
          simp only [Region.wanted, hg, hy]
          cases b <;> cases want <;> rfl
        have hset := setA_ok hT hl
        rcases brk_holds H with ⟨rfl, H2⟩ | ⟨rfl, H2⟩
        · cases want
          · rw [if_neg (by rw [hwant]; decide)]; exact skip _ hset H2
          · rw [if_pos (by rw [hwant]; decide)]; exact .inl (go _ hset H2)
        · cases want
          · rw [if_pos (by rw [hwant]; decide)]; exact .inl (go _ hset H2)
          · rw [if_neg (by rw [hwant]; decide)]; exact skip _ hset H2
      · rename_i hl
        have hv := hT.tm d
        rw [hl] at hv
        obtain ⟨us, hv1, hus⟩ := hv
        have hus : us = #[] := by cases us with | mk l => have : l = [] := hus; subst this; rfl
        subst hus
        have hy : yielded ops a.tmps j = none := by
          unfold yielded
          rw [hd]
          rw [Array.getD_eq_getD_getElem?] at hv1
          cases ht : a.tmps[d]? with
          | none => simp [ht]
          | some x => rw [ht] at hv1; simp only [Option.getD_some] at hv1; simp [ht, hv1]
        have hwant : Region.wanted o (yielded ops a.tmps) = false := by simp [Region.wanted, hg, hy]
        rw [if_neg (by rw [hwant]; decide)]; exact skip _ hT H
      · exact H.elim
theorem Cont.step {K : Tm × Hp → Prop} {next : Act → World → Prop} (hn : Cont P w0 G E h w K next) {E1 : Env} {h1 : Hp} {w1 : World} (hs : Stepd P w0 G E h w E1 h1 w1) : Cont P w0 G E1 h1 w1 K next :=
  fun F' h' E' a' w' hk hs' hT => hn F' h' E' a' w' hk (hs.trans hs') hT
theorem evList_ok {call : FuncId → Spec} (hcall : CallOk P call) {ops : Array Oper} {K : Tm × Hp → Prop} : ∀ (l : List Oper) {F : Tm} {h : Hp} {E : Env} {w : World} {a : Act}, (evList P call ops l F h).holds K → Inv P w0 G E h w → RelT E F a →
    Cont P w0 G E h w K (Q .normal) → wpList P ops Q l a w
  | [], F, h, E, w, a, H, I, hT, hn => hn _ _ _ _ _ H (Stepd.refl I) hT
  | o :: l, F, h, E, w, a, H, I, hT, hn => by
    rw [evList_cons] at H
    rw [RT.holds_bind] at H
    have := evStep_ok (Q := Q) (next := wpList P ops Q l) hcall H I hT (fun F' h' E' a' w' hk hs hT' => evList_ok hcall l hk hs.inv hT' (hn.step hs))
    unfold wpList
    split
    · rename_i hw; rw [if_pos hw] at this; exact this
    · rename_i hw; rw [if_neg hw] at this; exact this
end
end
end Go.Proofs.YtomblhnchdokmaaGreatDoor

namespace Go.Proofs.YtomblhnchdokmaaGreatDoor
set_option linter.unusedSimpArgs false
set_option linter.unusedVariables false
open Go.RowKit
set_option maxRecDepth 10000
noncomputable section
section
variable {P : Program} {ops : Array Oper} {Q : Exit → Act → World → Prop}

def depends (ops : Array Oper) (i j : Nat) : Bool := match ops[j]? with | some o => waits i o | none => false
/-- a promise: operation i reads the same as long as this holds -/
abbrev SPrm := List (Nat × (World → Prop))
def kept (ops : Array Oper) (j : Nat) (pr : SPrm) : SPrm := pr.filter fun p => !depends ops p.1 j
def wpL (P : Program) (ops : Array Oper) (Q : Exit → Act → World → Prop) : Nat → Array Bool → SPrm → Act → World → Prop
  | 0, listed, _, a, w => Region.ready .any ops listed = [] ∧ Q .normal a w
  | n + 1, listed, pr, a, w => (Region.ready .any ops listed = [] → Q .normal a w) ∧
    ∀ j ∈ Region.ready .any ops listed, wpOp P ops Q j (fun a' w' => (∀ p ∈ kept ops j pr, p.2 w') ∧ wpL P ops Q n (listed.setIfInBounds j true) (kept ops j pr) a' w') a w
theorem wpL_any : ∀ (n : Nat) (listed : Array Bool) (pr : SPrm) (a : Act) (w : World), wpL P ops Q n listed pr a w → wpAny P .any ops Q n listed a w
  | 0, _, _, _, _, h => h
  | n + 1, _, _, _, _, h => ⟨h.1, fun i hi => wpOp_mono (fun a' w' h' => wpL_any n _ _ a' w' h'.2) (h.2 i hi)⟩
theorem kept_sub {j : Nat} {pr pr' : SPrm} (h : ∀ p ∈ pr', p ∈ pr) : ∀ p ∈ kept ops j pr', p ∈ kept ops j pr := fun p hp => by
  unfold kept at *
  rw [List.mem_filter] at *
  exact ⟨h p hp.1, hp.2⟩
theorem wpL_weaken : ∀ (n : Nat) (listed : Array Bool) (pr pr' : SPrm) (a : Act) (w : World), (∀ p ∈ pr', p ∈ pr) → wpL P ops Q n listed pr a w → wpL P ops Q n listed pr' a w
  | 0, _, _, _, _, _, _, h => h
  | n + 1, _, _, _, _, _, hs, h => ⟨h.1, fun i hi => wpOp_mono (fun a' w' h' => ⟨fun p hp => h'.1 p (kept_sub hs p hp), wpL_weaken n _ _ _ a' w' (kept_sub hs) h'.2⟩) (h.2 i hi)⟩
theorem waits_ready {i j : Nat} {listed : Array Bool} (hj : j ∈ Region.ready .any ops listed) (hi : listed.getD i true = false) : depends ops i j = false := by
  obtain ⟨_, oj, hoj, hall⟩ := mem_ready.1 hj
  unfold depends
  rw [hoj]
  simp only [waits]
  cases hw : (oj.after.any fun e => Region.binds .any e && e.on == i)
  · rfl
  · obtain ⟨e, he, h2⟩ := Array.any_eq_true'.1 hw
    simp only [Bool.and_eq_true, beq_iff_eq] at h2
    have h1 := hall e he h2.1
    rw [h2.2] at h1
    rcases Nat.lt_or_ge i listed.size with h' | h'
    · simp [h'] at hi h1; rw [hi] at h1; cases h1
    · simp [Array.getElem?_eq_none h'] at h1
theorem wpL_first {i : Nat} {oi : Oper} {v : Value} {T : World → Prop} (hi : ops[i]? = some oi) (hsel : ∀ (j : Nat) (o : Oper) cs b, ops[j]? = some o → o.op ≠ .select cs b)
    (hQ : ∀ c a w, Q (.panic c) (a.put oi.dst v) w → Q (.panic c) a w) :
    ∀ (n : Nat) (listed : Array Bool) (pr : SPrm) (a : Act) (w : World),
      (∀ j oj, ops[j]? = some oj → j ≠ i → listed.getD j true = false → (∀ e ∈ oj.after, Region.binds .any e = true → e.on ≠ i) → oi.apart ops oj = true) →
      i ∈ Region.ready .any ops listed → YieldsIf P ops T oi v a → T w → (∀ p ∈ pr, p.2 w) →
      wpL P ops Q n (listed.setIfInBounds i true) ((i, T) :: pr) (a.put oi.dst v) w → wpL P ops Q (n + 1) listed pr a w := by
  intro n
  induction n with
  | zero =>
    intro listed pr a w _ hr hy hT hpr H
    refine ⟨fun h => (by rw [h] at hr; cases hr), fun j hj => ?_⟩
    by_cases hji : j = i
    · subst hji; exact hy.wpOp hi hT ⟨fun p hp => hpr p (List.mem_filter.1 hp).1, H⟩
    · have := ready_mono hj hji
      rw [H.1] at this
      cases this
  | succ n ih =>
    intro listed pr a w hfree hr hy hT hpr H
    refine ⟨fun h => (by rw [h] at hr; cases hr), fun j hj => ?_⟩
    by_cases hji : j = i
    · subst hji
      exact hy.wpOp hi hT ⟨fun p hp => hpr p (List.mem_filter.1 hp).1, wpL_weaken _ _ _ _ _ _ (fun p hp => List.mem_cons_of_mem _ (List.mem_filter.1 hp).1) H⟩
    · have h1 := H.2 j (ready_mono hj hji)
      obtain ⟨hjun, oj, hoj, hall⟩ := mem_ready.1 hj
      have hiun := (mem_ready.1 hr).1
      have hdep := waits_ready hj hiun
      have hnot : ∀ e ∈ oj.after, Region.binds .any e = true → e.on ≠ i := fun e he hb heq => by
        have h1 := hall e he hb
        rw [heq] at h1
        rcases Nat.lt_or_ge i listed.size with h' | h'
        · simp [h'] at hiun h1; rw [hiun] at h1; cases h1
        · simp [Array.getElem?_eq_none h'] at h1
      have hkept : kept ops j ((i, T) :: pr) = (i, T) :: kept ops j pr := by
        unfold kept
        rw [List.filter_cons]
        simp [hdep]
      rw [hkept] at h1
      have h2 := wpOp_putIf hoj (hfree j oj hoj hji hjun hnot) (fun cs b => hsel i oi cs b hi) (fun cs b => hsel j oj cs b hoj) hQ hy h1
      have hfree' : ∀ k ok, ops[k]? = some ok → k ≠ i → (listed.setIfInBounds j true).getD k true = false →
          (∀ e ∈ ok.after, Region.binds .any e = true → e.on ≠ i) → oi.apart ops ok = true := fun k ok hk hki hun hno => by
        refine hfree k ok hk hki ?_ hno
        by_cases hjk : j = k
        · subst hjk; exact hjun
        · rw [getD_set_ne true hjk] at hun; exact hun
      refine wpOp_mono (fun a' w' h3 => ?_) h2
      obtain ⟨h4, h5, h6⟩ := h3
      refine ⟨fun p hp => h5 p (List.mem_cons_of_mem _ hp), ih (listed.setIfInBounds j true) (kept ops j pr) a' w' hfree' (ready_mono hr (Ne.symm hji)) h4 (h5 (i, T) List.mem_cons_self) (fun p hp => h5 p (List.mem_cons_of_mem _ hp)) ?_⟩
      rw [Array.setIfInBounds_comm _ _ hji]
      exact h6

/-! The evaluator over such a region. -/
variable {E : Env} {F : Tm} {h : Hp} {w w0 : World} {G : Nat → Prop} {a : Act}
/-- promises that are met -/
inductive Met (E : Env) (h : Hp) (w : World) : Prm → SPrm → Prop
  | nil : Met E h w [] []
  | pure {pr : Prm} {spr : SPrm} (i : Nat) (T : World → Prop) (hz : ∀ W, (∀ b j v, E.Z b j = some v → W.cell? ⟨b, j, none⟩ = some v) → T W) : Met E h w pr spr → Met E h w pr ((i, T) :: spr)
  | load {pr : Prm} {spr : SPrm} (i b n : Nat) (T : World → Prop) (hl : E.live b) (hc : ver b h = n) (hz : ∀ W, (∀ b j v, E.Z b j = some v → W.cell? ⟨b, j, none⟩ = some v) → W.heap[E.β b]? = w.heap[E.β b]? → T W) :
      Met E h w pr spr → Met E h w ((i, b, n) :: pr) ((i, T) :: spr)
theorem Met.hold (I : Inv P w0 G E h w) {pr : Prm} {spr : SPrm} (H : Met E h w pr spr) : ∀ p ∈ spr, p.2 w := by
  induction H with
  | nil => simp
  | pure i T hz _ ih =>
    intro p hp
    rcases List.mem_cons.1 hp with rfl | hp
    · exact hz w I.z
    · exact ih p hp
  | load i b n T hl hc hz _ ih =>
    intro p hp
    rcases List.mem_cons.1 hp with rfl | hp
    · exact hz w I.z rfl
    · exact ih p hp
theorem Met.step {oj : Oper} {j : Nat} (hj : ops[j]? = some oj) {E' : Env} {h' : Hp} {w' : World} (hs : Stepd P w0 G E h w E' h' w') {pr : Prm} {spr : SPrm} (H : Met E h w pr spr) : keeps h' (keepP oj pr) = true → Met E' h' w' (keepP oj pr) (kept ops j spr) := by
  have hd : ∀ i, depends ops i j = waits i oj := fun i => by unfold depends; rw [hj]
  induction H with
  | nil => intro _; exact .nil
  | pure i T hz _ ih =>
    intro hk
    unfold kept
    rw [List.filter_cons]
    split
    · exact .pure i T (fun W hW => hz W fun b q v hv => hW b q v (hs.ext.Z b q v hv)) (ih hk)
    · exact ih hk
  | load i b n T hl hc hz _ ih =>
    intro hk
    simp only [keepP] at hk ⊢
    unfold kept
    rw [List.filter_cons, hd]
    cases hw : waits i oj
    · rw [hw] at hk
      simp only [cond_false, keeps, Bool.and_eq_true] at hk
      simp only [cond_false, Bool.not_false, if_true]
      have hc' := Nat.eq_of_beq_eq_true hk.1
      refine .load i b n T (hs.ext.live b hl) hc' (fun W hW hb => hz W (fun b q v hv => hW b q v (hs.ext.Z b q v hv)) ?_) (ih hk.2)
      rw [hs.ext.β b hl] at hb
      rw [hb]
      exact (hs.un b hl).2 (by rw [hc', hc])
    · rw [hw] at hk
      simp only [cond_true, Bool.not_true, Bool.false_eq_true, if_false]
      exact ih hk
theorem opnd_setA {d : Nat} {b : Bool} {x : Operand} {o : Nat} (hx : tgt (opnd (setA F d b) x) = some o) : tgt (opnd F x) = some o := by
  cases x with
  | tmp t =>
    simp only [opnd, setA, look_cons] at hx ⊢
    cases hb : Nat.beq d t
    · rw [hb] at hx; exact hx
    · rw [hb] at hx; cases hx
  | const v => exact hx
  | global g => exact hx
  | func f => exact hx
theorem seesO_setA {d : Nat} {b : Bool} {o : Oper} {W : World} (hW : SeesO E F o w W) : SeesO E (setA F d b) o w W := ⟨hW.1, fun x p h1 h2 => hW.2 x p h1 (opnd_setA h2)⟩
theorem evStepEarly_ok {call : FuncId → Spec} {o : Oper} {K : Tm × Hp → Prop} (he : earlyA P o = true) (H : (evStep P call ops o F h).holds K) (I : Inv P w0 G E h w) (hT : RelT E F a) :
    ∃ F' v, K (F', h) ∧ RelT E F' (a.put o.dst v) ∧ YieldsIf P ops (SeesO E F o w) o v a := by
  have go : ∀ F1, RelT E F1 a → (∀ W, SeesO E F o w W → SeesO E F1 o w W) → Region.wanted o (yielded ops a.tmps) = true → (match deferA o F1 with
      | some r => r.bind fun F => .ok (F, h)
      | none => (evOp P call o F1 h).bind fun r => (putA F1 o.dst r.1).bind fun F => .ok (F, r.2) : RT (Tm × Hp)).holds K →
      ∃ F' v, K (F', h) ∧ RelT E F' (a.put o.dst v) ∧ YieldsIf P ops (SeesO E F o w) o v a := fun F1 hT1 hS hw H => by
    have hnd : deferA o F1 = none := by
      unfold deferA
      split
      · rename_i c hc; unfold earlyA at he; rw [hc] at he; cases he
      · rfl
    rw [hnd] at H
    simp only at H
    rw [RT.holds_bind] at H
    obtain ⟨av, v, h1, h2, h3⟩ := evEarly_ok he H I hT1
    rw [RT.holds_bind] at h1
    obtain ⟨F', k1, k2⟩ := putA_ok h1 hT1 h2
    exact ⟨F', v, k1, k2, .inl ⟨hw, fun W hW => h3 W (hS W hW)⟩⟩
  have skip : ∀ F1, RelT E F1 a → Region.wanted o (yielded ops a.tmps) = false → ((putA F1 o.dst (.tup [])).bind fun F => .ok (F, h)).holds K → ∃ F' v, K (F', h) ∧ RelT E F' (a.put o.dst v) ∧ YieldsIf P ops (SeesO E F o w) o v a := fun F1 hT1 hw H => by
    rw [RT.holds_bind] at H
    obtain ⟨F', k1, k2⟩ := putA_ok (u := undef) H hT1 ⟨#[], rfl, rfl⟩
    exact ⟨F', undef, k1, k2, .inr ⟨hw, rfl⟩⟩
  unfold evStep guardA at H
  split at H
  · rename_i hg
    have hw : Region.wanted o (yielded ops a.tmps) = true := by simp [Region.wanted, hg]
    exact go F hT (fun W h => h) hw H
  · rename_i j want hg
    split at H
    · exact H.elim
    · rename_i d hd
      split at H
      · rename_i kn b hl
        have hv := hT.tm d
        rw [hl] at hv
        have hy : yielded ops a.tmps j = some b := by
          unfold yielded
          rw [hd]
          have hv1 := hv.1
          rw [Array.getD_eq_getD_getElem?] at hv1
          cases ht : a.tmps[d]? with
          | none => rw [ht] at hv1; cases hv1
          | some x => rw [ht] at hv1; simp only [Option.getD_some] at hv1; simp [ht, hv1]
        have hwant : Region.wanted o (yielded ops a.tmps) = (b == want) := by
          simp only [Region.wanted, hg, hy]
          cases b <;> cases want <;> rfl
        have hset := setA_ok hT hl
        rcases brk_holds H with ⟨rfl, H2⟩ | ⟨rfl, H2⟩
        · cases want
          · exact skip _ hset (by rw [hwant]; decide) H2
          · exact go _ hset (fun W h => seesO_setA h) (by rw [hwant]; decide) H2
        · cases want
          · exact go _ hset (fun W h => seesO_setA h) (by rw [hwant]; decide) H2
          · exact skip _ hset (by rw [hwant]; decide) H2
      · rename_i hl
        have hv := hT.tm d
        rw [hl] at hv
        obtain ⟨us, hv1, hus⟩ := hv
        have hus : us = #[] := by cases us with | mk l => have : l = [] := hus; subst this; rfl
        subst hus
        have hy : yielded ops a.tmps j = none := by
          unfold yielded
          rw [hd]
          rw [Array.getD_eq_getD_getElem?] at hv1
          cases ht : a.tmps[d]? with
          | none => simp [ht]
          | some x => rw [ht] at hv1; simp only [Option.getD_some] at hv1; simp [ht, hv1]
        have hwant : Region.wanted o (yielded ops a.tmps) = false := by simp [Region.wanted, hg, hy]
        exact skip _ hT hwant H
      · exact H.elim
theorem met_promise {o : Oper} {i : Nat} {pr : Prm} {spr : SPrm} (hT : RelT E F a) (H : Met E h w pr spr) : Met E h w (promise i o F h ++ pr) ((i, SeesO E F o w) :: spr) := by
  have pure' : (∀ x b, rdOf o = some x → tgt (opnd F x) ≠ some b) → Met E h w pr ((i, SeesO E F o w) :: spr) := fun hn => .pure i _ (fun W hW => ⟨hW, fun x b h1 h2 => absurd h2 (hn x b h1)⟩) H
  unfold promise
  split
  · rename_i x hop
    split
    · rename_i b hx
      have hr := rel_opnd hT x
      have hlb : E.live b := by
        revert hx hr
        generalize opnd F x = X
        intro hx hr
        cases X <;> simp only [tgt] at hx <;> cases hx <;> exact hr.1
      refine .load i b _ _ hlb rfl (fun W hW hb => ⟨hW, fun x' b' h1 h2 => ?_⟩) H
      rw [hop] at h1
      injection h1 with h1
      subst h1
      rw [hx] at h2
      injection h2 with h2
      subst h2
      exact hb
    · rename_i hx
      refine pure' fun x' b h1 h2 => ?_
      rw [hop] at h1
      injection h1 with h1
      subst h1
      rw [hx] at h2; cases h2
  · rename_i hop
    exact pure' fun x b h1 _ => by rw [hop] at h1; cases h1
theorem earlyN_ok (o : Oper) (h : earlyN P o = true) : earlyA P o = true := by
  unfold earlyN at h
  split at h
  · cases h
  · exact h
theorem erOf_ok {Λ : FuncId → Nat → Option (Tm → Hp → RT (Ex × Tm × Hp))} {f id : Nat} (o : Oper) (h : erOf P Λ f id o = true) : earlyA P o = true := by
  unfold erOf at h
  cases hl : Λ f (2000 + id) with
  | none => rw [hl] at h; exact h
  | some x => rw [hl] at h; exact earlyN_ok o h
theorem evDrawn_ok {er : Oper → Bool} (her : ∀ o, er o = true → earlyA P o = true) {call : FuncId → Spec} (hcall : CallOk P call) (hns : Region.noSelect ops = true) (hQ : ∀ d v c a w, Q (.panic c) (Act.put a d v) w → Q (.panic c) a w) {K : Tm × Hp → Prop} :
    ∀ (n : Nat) {listed : Array Bool} {pr : Prm} {spr : SPrm} {F : Tm} {h : Hp} {E : Env} {w : World} {a : Act}, (evDrawn P er call ops n listed pr F h).holds K → Inv P w0 G E h w → RelT E F a → Met E h w pr spr→
      Cont P w0 G E h w K (Q .normal) → wpL P ops Q n listed spr a w
  | 0, listed, pr, spr, F, h, E, w, a, H, I, hT, hM, hn => by
    unfold evDrawn at H
    split at H
    · rename_i hr
      exact ⟨hr, hn _ _ _ _ _ H (Stepd.refl I) hT⟩
    · exact H.elim
  | n + 1, listed, pr, spr, F, h, E, w, a, H, I, hT, hM, hn => by
    unfold evDrawn at H
    simp only at H
    split at H
    · rename_i i hfind
      split at H
      · rename_i o ho
        cases hf : Region.free .any ops listed i
        · rw [hf] at H; exact H.elim
        rw [hf] at H
        simp only [cond_true] at H
        have he : earlyA P o = true := by
          have := List.find?_some hfind
          rw [ho] at this
          exact her o this
        have hir : i ∈ Region.ready .any ops listed := List.mem_of_find?_eq_some hfind
        rw [RT.holds_bind] at H
        obtain ⟨F', v, k1, k2, k3⟩ := evStepEarly_ok he H I hT
        have hM' := met_promise (i := i) (o := o) hT hM
        have hself : SeesO E F o w w := seesO_self I o
        exact wpL_first ho (Region.noSelect_spec hns) (hQ _ _) n listed spr a w (Region.free_spec ho hf) hir k3 hself (hM.hold I)
          (evDrawn_ok her hcall hns hQ n k1 I k2 hM' hn)
      · exact H.elim
    · rename_i hnone
      have one : ∀ i, (match ops[i]? with
          | some o => (evStep P call ops o F h).bind fun r => bif keeps r.2 (keepP o pr) then evDrawn P er call ops n (listed.setIfInBounds i true) (keepP o pr) r.1 r.2 else .bad 98
          | none => .bad 99 : RT (Tm × Hp)).holds K → wpOp P ops Q i (fun a' w' => (∀ p ∈ kept ops i spr, p.2 w') ∧ wpL P ops Q n (listed.setIfInBounds i true) (kept ops i spr) a' w') a w := fun i Hi => by
        split at Hi
        · rename_i o ho
          rw [RT.holds_bind] at Hi
          unfold wpOp
          rw [ho]
          refine evStep_ok hcall Hi I hT fun F' h' E' a' w' hk hs hT' => ?_
          cases hkp : keeps h' (keepP o pr)
          · rw [hkp] at hk; exact hk.elim
          · rw [hkp] at hk
            have hM' := hM.step ho hs hkp
            exact ⟨hM'.hold hs.inv, evDrawn_ok her hcall hns hQ n hk hs.inv hT' hM' (hn.step hs)⟩
        · exact Hi.elim
      split at H
      · rename_i hr
        exact ⟨fun _ => hn _ _ _ _ _ H (Stepd.refl I) hT, by rw [hr]; simp⟩
      · rename_i i hr
        refine ⟨(fun h0 => by rw [hr] at h0; cases h0), ?_⟩
        rw [hr]
        intro j hj
        obtain rfl : j = i := by simpa using hj
        exact one _ H
      · rename_i i j hr
        refine ⟨(fun h0 => by rw [hr] at h0; cases h0), ?_⟩
        rw [hr]
        intro q hq
        rcases (by simpa using hq : q = i ∨ q = j) with rfl | rfl
        · exact one _ H.1
        · exact one _ H.2
      · rename_i i j k hr
        refine ⟨(fun h0 => by rw [hr] at h0; cases h0), ?_⟩
        rw [hr]
        intro q hq
        rcases (by simpa using hq : q = i ∨ q = j ∨ q = k) with rfl | rfl | rfl
        · exact one _ H.1
        · exact one _ H.2.1
        · exact one _ H.2.2
      · rename_i i j k l hr
        refine ⟨(fun h0 => by rw [hr] at h0; cases h0), ?_⟩
        rw [hr]
        intro q hq
        rcases (by simpa using hq : q = i ∨ q = j ∨ q = k ∨ q = l) with rfl | rfl | rfl | rfl
        · exact one _ H.1
        · exact one _ H.2.1
        · exact one _ H.2.2.1
        · exact one _ H.2.2.2
      · exact H.elim
end
end
end Go.Proofs.YtomblhnchdokmaaGreatDoor

namespace Go.Proofs.YtomblhnchdokmaaGreatDoor
set_option linter.unusedSimpArgs false
set_option linter.unusedVariables false
open Go.RowKit
set_option maxRecDepth 10000
noncomputable section
section
variable {P : Program} {E : Env} {F : Tm} {h : Hp} {w w0 : World} {G : Nat → Prop} {a : Act} {Q : Exit → Act → World → Prop}

/-- a step of an operation that puts nothing off -/
theorem evStepQ_ok {call : FuncId → Spec} (hcall : CallOk P call) {ops : Array Oper} {o : Oper} (hdef : ∀ F : Tm, deferA o F = none) {K : Tm × Hp → Prop} {next : Act → World → Prop} (H : (evStep P call ops o F h).holds K) (I : Inv P w0 G E h w) (hT : RelT E F a)
    (hn : ∀ F' h' E' v w', K (F', h') → Stepd P w0 G E h w E' h' w' → RelT E' F' (a.put o.dst v) → next (a.put o.dst v) w') : if Region.wanted o (yielded ops a.tmps) = true then o.wp P a w next Q ∨ (o.asks P a w ∧ LetsOut Q) else next (a.put o.dst undef) w := by
  have go : ∀ F, RelT E F a → (match deferA o F with
      | some r => r.bind fun F => .ok (F, h)
      | none => (evOp P call o F h).bind fun r => (putA F o.dst r.1).bind fun F => .ok (F, r.2) : RT (Tm × Hp)).holds K → o.wp P a w next Q := fun F hT H => by
    rw [hdef F] at H
    simp only at H
    rw [RT.holds_bind] at H
    refine evOp_ok hcall H I hT fun av h' v w' E' hk hs hr => ?_
    rw [RT.holds_bind] at hk
    obtain ⟨F', k1, k2⟩ := putA_ok hk (hT.mono hs.ext) hr
    exact hn _ _ _ _ _ k1 hs k2
  have skip : ∀ F, RelT E F a → ((putA F o.dst (.tup [])).bind fun F => .ok (F, h)).holds K → next (a.put o.dst undef) w := fun F hT H => by
    rw [RT.holds_bind] at H
    obtain ⟨F', k1, k2⟩ := putA_ok (u := undef) H hT ⟨#[], rfl, rfl⟩
    exact hn _ _ _ _ _ k1 (Stepd.refl I) k2
  unfold evStep guardA at H
  split at H
  · rename_i hg
    have hw : Region.wanted o (yielded ops a.tmps) = true := by simp [Region.wanted, hg]
    rw [if_pos hw]
    exact .inl (go F hT H)
  · rename_i j want hg
    split at H
    · exact H.elim
    · rename_i d hd
      split at H
      · rename_i kn b hl
        have hv := hT.tm d
        rw [hl] at hv
        have hy : yielded ops a.tmps j = some b := by
          unfold yielded
          rw [hd]
          have hv1 := hv.1
          rw [Array.getD_eq_getD_getElem?] at hv1
          cases ht : a.tmps[d]? with
          | none => rw [ht] at hv1; cases hv1
          | some x => rw [ht] at hv1; simp only [Option.getD_some] at hv1; simp [ht, hv1]
        have hwant : Region.wanted o (yielded ops a.tmps) = (b == want) := by
          simp only [Region.wanted, hg, hy]
          cases b <;> cases want <;> rfl
        have hset := setA_ok hT hl
        rcases brk_holds H with ⟨rfl, H2⟩ | ⟨rfl, H2⟩
        · cases want
          · rw [if_neg (by rw [hwant]; decide)]; exact skip _ hset H2
          · rw [if_pos (by rw [hwant]; decide)]; exact .inl (go _ hset H2)
        · cases want
          · rw [if_pos (by rw [hwant]; decide)]; exact .inl (go _ hset H2)
          · rw [if_neg (by rw [hwant]; decide)]; exact skip _ hset H2
      · rename_i hl
        have hv := hT.tm d
        rw [hl] at hv
        obtain ⟨us, hv1, hus⟩ := hv
        have hus : us = #[] := by cases us with | mk l => have : l = [] := hus; subst this; rfl
        subst hus
        have hy : yielded ops a.tmps j = none := by
          unfold yielded
          rw [hd]
          rw [Array.getD_eq_getD_getElem?] at hv1
          cases ht : a.tmps[d]? with
          | none => simp [ht]
          | some x => rw [ht] at hv1; simp only [Option.getD_some] at hv1; simp [ht, hv1]
        have hwant : Region.wanted o (yielded ops a.tmps) = false := by simp [Region.wanted, hg, hy]
        rw [if_neg (by rw [hwant]; decide)]; exact skip _ hT H
      · exact H.elim

theorem look_only : ∀ (l : List Nat) (f : Nat → AV) (t : Nat), look t (l.map fun t => (t, f t)) = if t ∈ l then f t else .any
  | [], _, t => by simp [look_nil]
  | k :: l, f, t => by
    simp only [List.map_cons, look_cons, look_only l f t, List.mem_cons]
    cases hb : Nat.beq k t
    · have : ¬ t = k := fun e => by rw [e] at hb; simp at hb
      simp [this]
    · obtain rfl := Nat.eq_of_beq_eq_true hb
      simp

/-- what an owner may write -/
def Env.mine (E : Env) (b : Nat) : Prop := (∃ o, E.live o ∧ E.β o = b) ∨ ∃ k, k < E.m ∧ (E.vc k).ownBlock = some b
theorem Inv.top (I : Inv P w0 G E h w) : Inv P w E.mine E h w :=
  ⟨Kpt.refl _ _, I.m, I.ng, I.gn, I.gnlt, I.live, I.nx, I.ob, fun o ho => .inr (.inl ⟨o, ho, rfl⟩), I.inj, I.z, I.zob, fun k hk => by
    obtain ⟨sz, n, xs, g1, g2, g3, g4⟩ := I.vec k hk
    exact ⟨sz, n, xs, g1, g2, g3, fun b hb => ⟨.inr (.inr ⟨k, by rw [I.m]; exact hk, hb⟩), (g4 b hb).2⟩⟩, I.vinj, I.laid⟩
theorem Inv.mine_own (I : Inv P w0 G E h w) {b : Nat} (hb : E.mine b) : w0.heap.size ≤ b ∨ G b := by
  rcases hb with ⟨o, ho, rfl⟩ | ⟨k, hk, hb⟩
  · exact I.own o ho
  · obtain ⟨_, _, _, _, _, _, g4⟩ := I.vec k (by rw [← I.m]; exact hk)
    exact (g4 b hb).1
/-- what a call under a smaller right does -/
theorem Stepd.under {E2 : Env} {h2 : Hp} {w2 : World} (I : Inv P w0 G E h w) (S : Stepd P w E.mine E h w E2 h2 w2) : Stepd P w0 G E h w E2 h2 w2 := by
  have own : ∀ b, w.heap.size ≤ b ∨ E.mine b → w0.heap.size ≤ b ∨ G b := fun b hb => by
    rcases hb with h | h
    · exact .inl (Nat.le_trans I.kpt.size h)
    · exact I.mine_own h
  refine ⟨S.ext, ⟨I.kpt.then S.inv.kpt fun b hb => I.mine_own hb, S.inv.m, S.inv.ng, S.inv.gn, S.inv.gnlt, S.inv.live, S.inv.nx, S.inv.ob, fun o ho => own _ (S.inv.own o ho), S.inv.inj, S.inv.z, S.inv.zob, fun k hk => ?_, S.inv.vinj, S.inv.laid⟩, S.un, fun b j v hz => ?_⟩
  · obtain ⟨sz, n, xs, g1, g2, g3, g4⟩ := S.inv.vec k hk
    exact ⟨sz, n, xs, g1, g2, g3, fun b hb => ⟨own b (g4 b hb).1, (g4 b hb).2⟩⟩
  · rcases S.zn b j v hz with h | h
    · exact .inl h
    · exact .inr (own b h)
/-- a new variable that the heap does not know yet -/
structure Held (w0 : World) (G : Nat → Prop) (E : Env) (w : World) (cs : List AV) (b : Nat) (v : Value) : Prop where
  ptr : v = .pointer (some ⟨b, 0, none⟩)
  ob : ∃ vs ob, w.heap[b]? = some ob ∧ RelL E cs vs ∧ ObOk ob vs
  own : w0.heap.size ≤ b ∨ G b
  nl : ∀ o, E.live o → E.β o ≠ b
  z : ∀ j, E.Z b j = none
  nv : ∀ k, k < E.m → (E.vc k).ownBlock ≠ some b
theorem Held.lt {cs : List AV} {b : Nat} {v : Value} (H : Held w0 G E w cs b v) : b < w.heap.size := by
  obtain ⟨_, _, h1, _⟩ := H.ob
  exact (Array.getElem?_eq_some_iff.1 h1).1
theorem Held.not_mine {cs : List AV} {b : Nat} {v : Value} (H : Held w0 G E w cs b v) : ¬ E.mine b := by
  rintro (⟨o, ho, e⟩ | ⟨k, hk, e⟩)
  · exact H.nl o ho e
  · exact H.nv k hk e
/-! What is new is forgotten. -/
theorem quiet_ver {h h' : Hp} (hq : quietH h h' = true) {o : Nat} (ho : o < h.nx) : ver o h' = ver o h := by
  unfold quietH at hq
  rw [Bool.and_eq_true] at hq
  exact Nat.eq_of_beq_eq_true (List.all_eq_true.1 hq.1 o (List.mem_range.2 ho))
theorem quiet_gn {h h' : Hp} (hq : quietH h h' = true) {k : Nat} (hk : k < h.nv) {p : Nat × TypeId} (hp : lookG k h.gn = some p) : lookG k h'.gn = some p := by
  unfold quietH at hq
  rw [Bool.and_eq_true] at hq
  have := List.all_eq_true.1 hq.2 k (List.mem_range.2 hk)
  obtain ⟨g, e⟩ := p
  rw [hp] at this
  split at this
  · rename_i g1 e1 g2 e2 h1 h2
    cases h1
    simp only [Bool.and_eq_true] at this
    rw [h2, Nat.eq_of_beq_eq_true this.1, Nat.eq_of_beq_eq_true this.2]
  · cases this
section
variable {E2 : Env} {h2 : Hp} {w2 : World}
theorem same_vec (I : Inv P w0 G E h w) (S : Stepd P w0 G E h w E2 h2 w2) (hq : quietH h h2 = true) {k : Nat} (hk : k < h.nv) : k < h2.nv ∧ E2.vc k = E.vc k ∧ E2.gn k = E.gn k ∧ E2.ve k = E.ve k := by
  have hk2 : k < h2.nv := by
    have := S.ext.m
    rw [I.m, S.inv.m] at this
    omega
  have hg := quiet_gn hq hk (I.gn k hk)
  have hg2 := S.inv.gn k hk2
  rw [hg] at hg2
  injection hg2 with hg2
  have e1 : E.gn k = E2.gn k := congrArg Prod.fst hg2
  have e2 : E.ve k = E2.ve k := congrArg Prod.snd hg2
  refine ⟨hk2, ?_, e1.symm, e2.symm⟩
  rcases S.ext.vc k (by rw [I.m]; exact hk) with ⟨a, _⟩ | b
  · exact a
  · rw [← e1, I.ng] at b
    have := I.gnlt k hk
    omega
theorem Inv.forget (I : Inv P w0 G E h w) (S : Stepd P w0 G E h w E2 h2 w2) (hq : quietH h h2 = true) : Stepd P w0 G E h w { E with Z := E2.Z } h w2 := by
  have hx : Ext E { E with Z := E2.Z } := ⟨fun _ h => h, fun _ _ => rfl, S.ext.Z, Nat.le_refl _, Nat.le_refl _, fun _ _ => .inl ⟨rfl, rfl⟩, rfl⟩
  have hblk : ∀ o, E.live o → w2.heap[E.β o]? = w.heap[E.β o]? := fun o ho => (S.un o ho).2 (quiet_ver hq (I.nx o ho))
  refine ⟨hx, ⟨S.inv.kpt, I.m, I.ng, I.gn, I.gnlt, I.live, I.nx, fun o cs hcs => ?_, I.own, I.inj, S.inv.z, fun o j ho => ?_, fun k hk => ?_, I.vinj, I.laid.mono hx⟩, fun o ho => ⟨Nat.le_refl _, fun _ => hblk o ho⟩, S.zn⟩
  · obtain ⟨vs, ob, g1, g2, g3⟩ := I.ob o cs hcs
    have ho : E.live o := (I.live o).2 (by rw [hcs]; rfl)
    exact ⟨vs, ob, (hblk o ho).trans g1, RelL.mono hx _ _ g2, g3⟩
  · have := S.inv.zob o j (S.ext.live o ho)
    rw [S.ext.β o ho] at this
    exact this
  · obtain ⟨hk2, e1, e2, e3⟩ := same_vec I S hq hk
    obtain ⟨sz, n, xs, g1, g2, g3, g4⟩ := S.inv.vec k hk2
    rw [e3] at g1 g2
    rw [e1] at g2 g4
    refine ⟨sz, n, xs, g1, g2, g3, fun b hb => ?_⟩
    obtain ⟨q1, q2, q3⟩ := g4 b hb
    exact ⟨q1, fun o ho => by have := q2 o (S.ext.live o ho); rwa [S.ext.β o ho] at this, q3⟩
theorem calmL_len (h : Hp) : ∀ xs : List AV, (calmL h xs).length = xs.length
  | [] => rfl
  | x :: xs => by simp [calmL, calmL_len h xs]
mutual
theorem calm_rel (I : Inv P w0 G E h w) (S : Stepd P w0 G E h w E2 h2 w2) (hq : quietH h h2 = true) : ∀ (x : AV) (v : Value), Rel E2 x v → Rel { E with Z := E2.Z } (calm h x) v
  | .any, _, _ => trivial
  | .sc _ _, _, H => H
  | .ep _ _ _ _, _, H => H
  | .rw _ _, _, H => H
  | .ptr o off, v, ⟨_, hv⟩ => by
    simp only [calm]
    split
    · rename_i cs hcs
      have ho : E.live o := (I.live o).2 (by rw [hcs]; rfl)
      refine ⟨ho, ?_⟩
      rw [S.ext.β o ho] at hv
      exact hv
    · trivial
  | .mp o, v, ⟨_, hv⟩ => by
    simp only [calm]
    split
    · rename_i cs hcs
      have ho : E.live o := (I.live o).2 (by rw [hcs]; rfl)
      refine ⟨ho, ?_⟩
      rw [S.ext.β o ho] at hv
      exact hv
    · trivial
  | .rsl kn o n len, v, ⟨_, ad, cap, g1, g2, g3, g4, g5⟩ => by
    simp only [calm]
    split
    · rename_i cs hcs
      have ho : E.live o := (I.live o).2 (by rw [hcs]; rfl)
      refine ⟨ho, ad, cap, g1, g2, g3, g4, fun hn => ?_⟩
      have := g5 hn
      rw [S.ext.β o ho] at this
      exact this
    · trivial
  | .rp kn o n i j, v, ⟨_, hv⟩ => by
    simp only [calm]
    split
    · rename_i cs hcs
      have ho : E.live o := (I.live o).2 (by rw [hcs]; rfl)
      refine ⟨ho, ?_⟩
      rw [S.ext.β o ho] at hv
      exact hv
    · trivial
  | .vsl o _ _ _ _, v, ⟨_, h1, h2, hv⟩ => by
    simp only [calm]
    split
    · rename_i cs hcs
      have ho : E.live o := (I.live o).2 (by rw [hcs]; rfl)
      refine ⟨ho, h1, h2, ?_⟩
      rw [S.ext.β o ho] at hv
      exact hv
    · trivial
  | .al n len cs none, v, ⟨⟨vs, b, o, cap, h1, h2, h3, h4, h5, h6, h7⟩, _⟩ => ⟨⟨vs, b, o, cap, calm_relL I S hq cs _ h1, h2, by rw [calmL_len]; exact h3, h4, h5, h6, h7⟩, trivial⟩
  | .al n len cs (some (k, g)), v, ⟨⟨vs, b, o, cap, r1, r2, r3, r4, r5, r6, r7⟩, h1, h2', h3⟩ => by
    have hno : Rel { E with Z := E2.Z } (.al n len (calmL h cs) none) v := ⟨⟨vs, b, o, cap, calm_relL I S hq cs _ r1, r2, by rw [calmL_len]; exact r3, r4, r5, r6, r7⟩, trivial⟩
    simp only [calm]
    cases hb : Nat.blt k h.nv && Nat.blt g h.ng
    · exact hno
    · simp only [Bool.and_eq_true] at hb
      have hk : k < h.nv := Nat.le_of_ble_eq_true hb.1
      have hg : g < h.ng := Nat.le_of_ble_eq_true hb.2
      obtain ⟨_, e1, e2, _⟩ := same_vec I S hq hk
      refine ⟨hno.1, by show k < E.m; rw [I.m]; exact hk, by show g < E.ng; rw [I.ng]; exact hg, fun he => ?_⟩
      have he' : E.gn k = g := he
      rw [e1] at h3
      exact h3 (e2.trans he')
  | .ea cs, v, ⟨vs, b, o, h1, h2, h3, h4⟩ => ⟨vs, b, o, calm_relL I S hq cs _ h1, h2, h3, h4⟩
  | .sl kn es d none, v, H => H
  | .sl kn es d (some (k, g)), v, ⟨hl, h1, h2', h3⟩ => by
    simp only [calm]
    cases hb : Nat.blt k h.nv && Nat.blt g h.ng
    · exact ⟨hl, trivial⟩
    · simp only [Bool.and_eq_true] at hb
      have hk : k < h.nv := Nat.le_of_ble_eq_true hb.1
      have hg : g < h.ng := Nat.le_of_ble_eq_true hb.2
      obtain ⟨_, e1, e2, _⟩ := same_vec I S hq hk
      refine ⟨hl, by show k < E.m; rw [I.m]; exact hk, by show g < E.ng; rw [I.ng]; exact hg, fun he => ?_⟩
      have he' : E.gn k = g := he
      rw [e1] at h3
      exact h3 (e2.trans he')
  | .fn f a c, v, ⟨a', c', h1, h2, h3⟩ => ⟨a', c', h1.trans (by rw [S.ext.yl]), calm_relL I S hq a _ h2, calm_relL I S hq c _ h3⟩
  | .agg cs, v, ⟨cs', h1, h2, h3⟩ => ⟨cs', h1, calm_relL I S hq cs _ h2, h3⟩
  | .tup vs, v, ⟨vs', h1, h2⟩ => ⟨vs', h1, calm_relL I S hq vs _ h2⟩
theorem calm_relL (I : Inv P w0 G E h w) (S : Stepd P w0 G E h w E2 h2 w2) (hq : quietH h h2 = true) : ∀ (xs : List AV) (vs : List Value), RelL E2 xs vs → RelL { E with Z := E2.Z } (calmL h xs) vs
  | [], _, H => H
  | x :: xs, _, ⟨v, vs', h1, h2, h3⟩ => ⟨v, vs', h1, calm_rel I S hq x v h2, calm_relL I S hq xs vs' h3⟩
end
theorem Held.step (S : Stepd P w E.mine E h w E2 h2 w2) {cs : List AV} {b : Nat} {v : Value} (H : Held w0 G E w cs b v) : Held w0 G { E with Z := E2.Z } w2 cs b v := by
  have hlt := H.lt
  have hx : Ext E { E with Z := E2.Z } := ⟨fun _ h => h, fun _ _ => rfl, S.ext.Z, Nat.le_refl _, Nat.le_refl _, fun _ _ => .inl ⟨rfl, rfl⟩, rfl⟩
  refine ⟨H.ptr, ?_, H.own, H.nl, fun j => ?_, H.nv⟩
  · obtain ⟨vs, ob, g1, g2, g3⟩ := H.ob
    exact ⟨vs, ob, (S.inv.kpt.block b hlt H.not_mine).trans g1, RelL.mono hx _ _ g2, g3⟩
  · cases hz : E2.Z b j with
    | none => rfl
    | some u =>
      rcases S.zn b j u hz with h | h | h
      · rw [H.z j] at h; cases h
      · omega
      · exact absurd h H.not_mine
/-- a new variable, as it is made -/
theorem held_new (I : Inv P w0 G E h w) {cs : List AV} {v : Value} (S : Stepd P w E.mine E h w E2 (newA cs h).2 w2) (hq : quietH h (newA cs h).2 = true) (hv : Rel E2 (.ptr h.nx 0) v) :
    Held w0 G { E with Z := E2.Z } w2 (calmL h cs) (E2.β h.nx) v ∧ w.heap.size ≤ E2.β h.nx := by
  have hl : lookO h.nx (newA cs h).2.ob = some cs := by simp [newA, lookO_cons]
  have hlive : E2.live h.nx := (S.inv.live h.nx).2 (by rw [hl]; rfl)
  have hnl : ∀ o, E.live o → E.β o ≠ E2.β h.nx := fun o ho e => by
    rw [← S.ext.β o ho] at e
    have := S.inv.inj o h.nx (S.ext.live o ho) hlive e
    have := I.nx o ho
    omega
  have hnv : ∀ k, k < E.m → (E.vc k).ownBlock ≠ some (E2.β h.nx) := fun k hk e => by
    obtain ⟨hk2, e1, _, _⟩ := same_vec I (S.under I) hq (by rw [← I.m]; exact hk)
    obtain ⟨_, _, _, _, _, _, g4⟩ := S.inv.vec k hk2
    rw [← e1] at e
    exact (g4 _ e).2.1 h.nx hlive rfl
  have hsz : w.heap.size ≤ E2.β h.nx := by
    rcases S.inv.own h.nx hlive with h | ⟨o, ho, e⟩ | ⟨k, hk, e⟩
    · exact h
    · exact absurd e (hnl o ho)
    · exact absurd e (hnv k hk)
  obtain ⟨vs, ob, g1, g2, g3⟩ := S.inv.ob h.nx cs hl
  exact ⟨⟨hv.2, ⟨vs, ob, g1, calm_relL I (S.under I) hq _ _ g2, g3⟩, .inl (Nat.le_trans I.kpt.size hsz), hnl, fun j => S.inv.zob h.nx j hlive, hnv⟩, hsz⟩
/-- it is taken in -/
theorem Inv.adopt (I : Inv P w0 G E h w) {cs : List AV} {b : Nat} {v : Value} (H : Held w0 G E w cs b v) :
    ∃ E', Stepd P w0 G E h w E' (newA cs h).2 w ∧ Rel E' (newA cs h).1 v ∧ ∀ cs' b' v', b' ≠ b → Held w0 G E w cs' b' v' → Held w0 G E' w cs' b' v' := by
  have hnl : ¬ E.live h.nx := fun hl => by have := I.nx _ hl; omega
  have hext : Ext E { E with β := fun o => if o = h.nx then b else E.β o, live := fun o => E.live o ∨ o = h.nx } :=
    ⟨fun o ho => .inl ho, fun o ho => if_neg fun e : o = h.nx => hnl (e ▸ ho), fun _ _ _ hz => hz, Nat.le_refl _, Nat.le_refl _, fun _ _ => .inl ⟨rfl, rfl⟩, rfl⟩
  obtain ⟨vs, t, hblk, hr, h1⟩ := H.ob
  refine ⟨_, ⟨hext, ⟨I.kpt, I.m, I.ng, I.gn, I.gnlt, fun p => ?_, fun p hp => ?_, fun p cp hp => ?_, fun p hp => ?_, fun p q hp hq => ?_, I.z, fun p j hp => ?_, fun k hkn => ?_, I.vinj, I.laid.mono hext⟩, fun p hp => ?_, fun _ _ _ hz => .inl hz⟩, ⟨.inr rfl, by simp only [if_pos]; exact H.ptr⟩, fun cs' b' v' hne H' => ?_⟩
  · simp only [newA, lookO_cons]
    split
    · rename_i e; subst e; simp
    · rename_i e
      rw [← I.live p]
      exact ⟨fun hh => hh.resolve_right fun e' => e e'.symm, .inl⟩
  · rcases hp with hp | rfl
    · have := I.nx p hp; simp only [newA]; omega
    · simp only [newA]; omega
  · simp only [newA, lookO_cons] at hp
    split at hp
    · rename_i e; subst e; cases hp
      exact ⟨vs, t, by simp only [if_pos]; exact hblk, RelL.mono hext _ _ hr, h1⟩
    · rename_i e
      obtain ⟨us, t', g1, g2, g3⟩ := I.ob p cp hp
      refine ⟨us, t', ?_, RelL.mono hext _ _ g2, g3⟩
      simp only [if_neg (fun e' : p = h.nx => e (Eq.symm e'))]
      exact g1
  · rcases hp with hp | rfl
    · simp only [if_neg (fun e : p = h.nx => hnl (e ▸ hp))]; exact I.own p hp
    · simp only [if_pos]; exact H.own
  · intro e
    by_cases ep : p = h.nx <;> by_cases eq : q = h.nx
    · rw [ep, eq]
    · simp only [ep, eq, if_pos, if_neg, not_false_eq_true] at e
      exact absurd e.symm (H.nl q (hq.resolve_right eq))
    · simp only [ep, eq, if_pos, if_neg, not_false_eq_true] at e
      exact absurd e (H.nl p (hp.resolve_right ep))
    · simp only [if_neg ep, if_neg eq] at e
      exact I.inj p q (hp.resolve_right ep) (hq.resolve_right eq) e
  · by_cases ep : p = h.nx
    · simp only [if_pos ep]; exact H.z j
    · simp only [if_neg ep]; exact I.zob p j (hp.resolve_right ep)
  · obtain ⟨sz, n, xs, g1, g2, g3, g4⟩ := I.vec k hkn
    refine ⟨sz, n, xs, g1, g2, g3, fun b' hb' => ⟨(g4 b' hb').1, fun o ho => ?_, (g4 b' hb').2.2⟩⟩
    by_cases ep : o = h.nx
    · simp only [if_pos ep]
      intro e
      exact H.nv k (by rw [I.m]; exact hkn) (by rw [e]; exact hb')
    · simp only [if_neg ep]; exact (g4 b' hb').2.1 o (ho.resolve_right ep)
  · have : p ≠ h.nx := fun e => hnl (e ▸ hp)
    simp only [ver, newA, cnt_cons, if_neg (fun e : h.nx = p => this (Eq.symm e))]
    exact ⟨Nat.le_refl _, fun _ => by first | rfl | trivial⟩
  · refine ⟨H'.ptr, ?_, H'.own, fun o ho => ?_, H'.z, H'.nv⟩
    · obtain ⟨vs', ob', g1, g2, g3⟩ := H'.ob
      exact ⟨vs', ob', g1, RelL.mono hext _ _ g2, g3⟩
    · by_cases ep : o = h.nx
      · simp only [if_pos ep]; exact fun e => hne e.symm
      · simp only [if_neg ep]; exact H'.nl o (ho.resolve_right ep)
end

/-! The frames of the text's order. -/
theorem det_pick {α : Type} {R : α → Prop} : ∀ {x : RT α}, (detA x).holds R → ∃ y, x.holds (fun z => z = y) ∧ R y
  | .ok a, H => ⟨a, rfl, H⟩
  | .bad _, H => H.elim
  | .all _ _, H => H.elim
  | .br b x y, H => by
    cases b
    · obtain ⟨z, h1, h2⟩ := det_pick (x := y) (H.2 rfl)
      exact ⟨z, ⟨(fun h => by cases h), fun _ => h1⟩, h2⟩
    · obtain ⟨z, h1, h2⟩ := det_pick (x := x) (H.1 rfl)
      exact ⟨z, ⟨fun _ => h1, (fun h => by cases h)⟩, h2⟩
/-- what told t tells it still -/
def LeT (F F' : Tm) (t : Nat) : Prop := ∀ E v, Rel E (look t F.tm) v → Rel E (look t F'.tm) v
def putQ (o : Oper) (F1 : Tm) (h : Hp) (F2 : Tm) : Tm := match o.dst with
  | some d => { F1 with tm := (d, calm h (look d F2.tm)) :: F1.tm }
  | none => F1
/-- one step of the text's order -/
structure StepQ (P : Program) (call : FuncId → Spec) (ops : Array Oper) (h : Hp) (o : Oper) (F F1 F' : Tm) : Prop where
  nt : F1.nt = F.nt
  df : F1.df = F.df
  le : ∀ t, LeT F F1 t
  st : (evStep P call ops o (only (o.looksAt ops) F1) h).holds fun r => quietH h r.2 = true ∧ F' = putQ o F1 h r.1
theorem actQ_st {call : FuncId → Spec} {ops : Array Oper} {o : Oper} {F1 F' : Tm} (H : (actQ P call ops o F1 h).holds fun z => z = F') : (evStep P call ops o (only (o.looksAt ops) F1) h).holds fun r => quietH h r.2 = true ∧ F' = putQ o F1 h r.1 := by
  unfold actQ at H
  rw [RT.holds_bind] at H
  refine RT.holds_mono (fun r hr => ?_) _ H
  cases hq : quietH h r.2
  · rw [hq] at hr; exact hr.elim
  · rw [hq] at hr
    refine ⟨rfl, ?_⟩
    unfold putQ
    simp only [cond_true] at hr
    split at hr
    · rename_i d hd; rw [hd]; exact hr.symm
    · rename_i hd; rw [hd]; exact hr.symm
theorem leT_setA {d : Nat} {kn b : Bool} (hl : look d F.tm = .sc kn (.bool b)) (t : Nat) : LeT F (setA F d b) t := fun E v hv => by
  simp only [setA, look_cons]
  cases hb : Nat.beq d t
  · exact hv
  · obtain rfl := Nat.eq_of_beq_eq_true hb
    rw [hl] at hv
    exact ⟨hv.1, rfl⟩
theorem evQ1_st {call : FuncId → Spec} {ops : Array Oper} {o : Oper} {F' : Tm} (H : (evQ1 P call ops o F h).holds fun z => z = F') : ∃ F1, StepQ P call ops h o F F1 F' := by
  unfold evQ1 at H
  split at H
  · exact ⟨F, rfl, rfl, fun _ _ _ h => h, actQ_st H⟩
  · split at H
    · exact H.elim
    · rename_i d hd
      split at H
      · rename_i kn b hl
        rcases brk_holds H with ⟨rfl, H2⟩ | ⟨rfl, H2⟩
        · exact ⟨setA F d true, rfl, rfl, leT_setA hl, actQ_st H2⟩
        · exact ⟨setA F d false, rfl, rfl, leT_setA hl, actQ_st H2⟩
      · exact ⟨F, rfl, rfl, fun _ _ _ h => h, actQ_st H⟩
      · exact H.elim
theorem evQs_frames {call : FuncId → Spec} {ops : Array Oper} {K : Tm → Prop} : ∀ (l : List Oper) (F : Tm), (evQs P call ops h l F).holds K → ∃ Fs : Nat → Tm, Fs 0 = F ∧ (∀ i o, l[i]? = some o → ∃ F1, StepQ P call ops h o (Fs i) F1 (Fs (i + 1))) ∧ K (Fs l.length)
  | [], F, H => ⟨fun _ => F, rfl, fun i o hi => by simp at hi, H⟩
  | o :: l, F, H => by
    have H' : ((detA (evQ1 P call ops o F h)).bind (evQs P call ops h l)).holds K := H
    rw [RT.holds_bind] at H'
    obtain ⟨F', h1, h2⟩ := det_pick H'
    obtain ⟨Fs, g1, g2, g3⟩ := evQs_frames l F' h2
    refine ⟨fun i => match i with | 0 => F | i + 1 => Fs i, rfl, fun i o' hi => ?_, g3⟩
    cases i with
    | zero =>
      simp only [List.getElem?_cons_zero, Option.some.injEq] at hi
      subst hi
      obtain ⟨F1, hF⟩ := evQ1_st h1
      exact ⟨F1, by rw [← g1] at hF; exact hF⟩
    | succ i => exact g2 i o' (by simpa using hi)
/-- how many are not listed -/
def unl (listed : Array Bool) : Nat → Nat
  | 0 => 0
  | n + 1 => unl listed n + if listed.getD n true = true then 0 else 1
theorem unl_le (listed : Array Bool) : ∀ n, unl listed n ≤ n
  | 0 => Nat.le_refl _
  | n + 1 => by have := unl_le listed n; unfold unl; split <;> omega
theorem unl_set {listed : Array Bool} {k : Nat} (hk : listed.getD k true = false) : ∀ n, unl (listed.setIfInBounds k true) n + (if k < n then 1 else 0) = unl listed n
  | 0 => rfl
  | n + 1 => by
    have ih := unl_set hk n
    simp only [unl]
    by_cases hkn : k = n
    · subst hkn
      have h1 : (listed.setIfInBounds k true).getD k true = true := by
        rw [Array.getD_eq_getD_getElem?]
        rcases Nat.lt_or_ge k listed.size with h | h
        · rw [Array.getElem?_setIfInBounds_self_of_lt h]; rfl
        · rw [Array.getElem?_eq_none (by simpa using h)]; rfl
      rw [h1, hk]
      simp only [Nat.lt_irrefl, if_false, Nat.add_zero] at ih
      rw [ih]; simp
    · rw [getD_set_ne true hkn]
      have e : (k < n + 1) = (k < n) := by apply propext; omega
      rw [← ih]; simp only [e]; split <;> split <;> omega
end

section
variable {P : Program} {w0 : World} {G : Nat → Prop} {Q : Exit → Act → World → Prop}
theorem put_other {a : Act} {dst : Option Tmp} {v : Value} {t : Nat} (h : dst ≠ some t) : (a.put dst v).tmps.getD t undef = a.tmps.getD t undef := by
  cases dst with
  | none => rfl
  | some d =>
    have : d ≠ t := fun e => h (by rw [e])
    simp only [Act.put, Array.getD_eq_getD_getElem?, Array.getElem?_setIfInBounds_ne this]
theorem put_size {a : Act} {dst : Option Tmp} {v : Value} : (a.put dst v).tmps.size = a.tmps.size := by unfold Act.put; split <;> simp
theorem getD_of_true {listed : Array Bool} {k : Nat} (h : listed.getD k false = true) (d : Bool) : listed.getD k d = true := by
  rw [Array.getD_eq_getD_getElem?] at h ⊢
  cases hk : listed[k]? with
  | none => rw [hk] at h; cases h
  | some x => rw [hk] at h; exact h
/-- what is asked of the first m operations, and of the others -/
structure OkQ (P : Program) (ops : Array Oper) (m : Nat) : Prop where
  le : m ≤ ops.size
  kind : ∀ k o, k < m → ops[k]? = some o → isQuietO P o = true
  top : ∀ k o, ops[k]? = some o → ∀ e ∈ o.after, Region.binds .any e = true → e.on < k
  pair : ∀ k ok j oj d, k < m → j < m → ops[k]? = some ok → ops[j]? = some oj → j ≠ k → oj.dst = some d → ok.dst ≠ some d ∧ (d ∈ ok.looksAt ops → waits j ok = true ∨ waits k oj = true)
  wait : ∀ i k, i < m → m ≤ k → k < ops.size → i ∈ cov ops k m m
  row : ∀ k j, m ≤ k → k < j → j < ops.size → rdyB ops (fun x => Nat.blt x k) j = false
theorem leadQ_le : ∀ l : List Oper, leadQ P l ≤ l.length
  | [] => Nat.le_refl _
  | o :: l => by
    have := leadQ_le l
    unfold leadQ
    cases isQuietO P o
    · exact Nat.zero_le _
    · simp only [cond_true, List.length_cons]; omega
theorem leadQ_kind : ∀ (l : List Oper) (k : Nat) (o : Oper), k < leadQ P l → l[k]? = some o → isQuietO P o = true
  | [], k, o, h, ho => by simp at ho
  | x :: l, k, o, h, ho => by
    unfold leadQ at h
    cases hx : isQuietO P x
    · rw [hx] at h; simp at h
    · rw [hx] at h
      simp only [cond_true] at h
      cases k with
      | zero => simp at ho; subst ho; exact hx
      | succ k => exact leadQ_kind l k o (by omega) (by simpa using ho)
theorem blt_lt {a b : Nat} (h : Nat.blt a b = true) : a < b := Nat.lt_of_lt_of_le (Nat.lt_succ_self _) (Nat.le_of_ble_eq_true h)
theorem lt_blt {a b : Nat} (h : a < b) : Nat.blt a b = true := Nat.ble_eq_true_of_le h
theorem okQ_ok {ops : Array Oper} (h : quietR P ops = true) : OkQ P ops (leadQ P ops.toList) := by
  unfold quietR at h
  cases h0 : unord P ops
  · rw [h0] at h; cases h
  rw [h0] at h
  simp only [cond_true] at h
  cases h1 : okQ ops (leadQ P ops.toList)
  · rw [h1] at h; cases h
  rw [h1] at h
  simp only [cond_true] at h
  have hk : ∀ k ok, ops[k]? = some ok → (ok.after.all (fun e => !(Region.binds .any e) || Nat.blt e.on k) && (bif Nat.blt k (leadQ P ops.toList) then (List.range (leadQ P ops.toList)).all fun j => Nat.beq j k || okPair ops k ok j else true)) = true := fun k ok hok => by
    unfold okQ at h1
    have := List.all_eq_true.1 h1 k (List.mem_range.2 (Array.getElem?_eq_some_iff.1 hok).1)
    rw [hok] at this
    exact this
  have hs : ∀ k, leadQ P ops.toList ≤ k → k < ops.size → ((List.range (leadQ P ops.toList)).all (fun i => (cov ops k (leadQ P ops.toList) (leadQ P ops.toList)).contains i) && (List.range ops.size).all (fun j => !(Nat.blt k j) || !(rdyB ops (fun x => Nat.blt x k) j))) = true := fun k hk hks => by
    unfold sufOk at h
    have := List.all_eq_true.1 h k (List.mem_range.2 hks)
    cases hb : Nat.blt k (leadQ P ops.toList)
    · rw [hb, Bool.false_or] at this; exact this
    · have := blt_lt hb; omega
  refine ⟨by have := leadQ_le (P := P) ops.toList; rwa [Array.length_toList] at this, fun k o hk' ho => leadQ_kind _ k o hk' (by rw [Array.getElem?_toList]; exact ho), fun k o ho e he hb => ?_, fun k ok j oj d hkm hjm hok hoj hne hd => ?_, fun i k hi hm hks => ?_, fun k j hm hkj hjs => ?_⟩
  · have := hk k o ho
    rw [Bool.and_eq_true] at this
    have h1 := Array.all_eq_true'.1 this.1 e he
    rw [hb, Bool.not_true, Bool.false_or] at h1
    exact blt_lt h1
  · have := hk k ok hok
    rw [Bool.and_eq_true, lt_blt hkm, cond_true] at this
    have h1 := List.all_eq_true.1 this.2 j (List.mem_range.2 hjm)
    have hjk : Nat.beq j k = false := by
      cases hb : Nat.beq j k
      · rfl
      · exact absurd (Nat.eq_of_beq_eq_true hb) hne
    rw [hjk, Bool.false_or] at h1
    unfold okPair at h1
    rw [hoj] at h1
    simp only [hd, Bool.and_eq_true, Bool.or_eq_true, Bool.not_eq_true'] at h1
    refine ⟨fun e => ?_, fun hm => ?_⟩
    · have := h1.1
      unfold sameDst at this
      rw [e] at this
      simp at this
    · rcases h1.2 with (h2 | h2) | h2
      · rw [List.contains_eq_mem, decide_eq_true hm] at h2; cases h2
      · exact .inl h2
      · exact .inr h2
  · have := hs k hm hks
    rw [Bool.and_eq_true] at this
    have := List.all_eq_true.1 this.1 i (List.mem_range.2 hi)
    rw [List.contains_eq_mem] at this
    exact of_decide_eq_true this
  · have := hs k hm (by omega)
    rw [Bool.and_eq_true] at this
    have := List.all_eq_true.1 this.2 j (List.mem_range.2 hjs)
    rw [lt_blt hkj, Bool.not_true, Bool.false_or, Bool.not_eq_true'] at this
    exact this
theorem waits_on {j : Nat} {o : Oper} (hw : waits j o = true) : ∃ e ∈ o.after, Region.binds .any e = true ∧ e.on = j := by
  unfold waits at hw
  obtain ⟨e, he, h2⟩ := Array.any_eq_true'.1 hw
  simp only [Bool.and_eq_true, beq_iff_eq] at h2
  exact ⟨e, he, h2.1, h2.2⟩
section
variable {ops : Array Oper} {Fs : Nat → Tm} {call : FuncId → Spec} {h : Hp} {m : Nat}
theorem rdy_of {listed : Array Bool} {S : Nat → Bool} {k : Nat} (hk : k ∈ Region.ready .any ops listed) (hS : ∀ x, listed.getD x false = true → S x = true) : rdyB ops S k = true := by
  obtain ⟨_, o, ho, hall⟩ := mem_ready.1 hk
  unfold rdyB
  rw [ho]
  refine Array.all_eq_true'.2 fun e he => ?_
  cases hb : Region.binds .any e
  · rfl
  · rw [Bool.not_true, Bool.false_or]; exact hS _ (hall e he hb)
theorem putQ_other {o : Oper} {F1 F2 : Tm} {t : Nat} (ht : o.dst ≠ some t) : look t (putQ o F1 h F2).tm = look t F1.tm := by
  unfold putQ
  split
  · rename_i d hd
    have : d ≠ t := fun e => ht (by rw [hd, e])
    simp only [look_cons]
    cases hb : Nat.beq d t
    · rfl
    · exact absurd (Nat.eq_of_beq_eq_true hb) this
  · rfl
theorem putQ_same {o : Oper} {F1 F2 : Tm} : (putQ o F1 h F2).nt = F1.nt ∧ (putQ o F1 h F2).df = F1.df := by unfold putQ; split <;> exact ⟨rfl, rfl⟩
/-- the frames, all of them -/
structure Frs (P : Program) (call : FuncId → Spec) (ops : Array Oper) (m : Nat) (h : Hp) (Fs : Nat → Tm) : Prop where
  st : ∀ k o, k < m → ops[k]? = some o → ∃ F1, StepQ P call ops h o (Fs k) F1 (Fs (k + 1))
  ok : OkQ P ops m
theorem Frs.one (fr : Frs P call ops m h Fs) {k : Nat} (hk : k < m) : (Fs (k + 1)).nt = (Fs k).nt ∧ (Fs (k + 1)).df = (Fs k).df ∧ ∀ t, (∀ o, ops[k]? = some o → o.dst ≠ some t) → LeT (Fs k) (Fs (k + 1)) t := by
  have hks : k < ops.size := Nat.lt_of_lt_of_le hk fr.ok.le
  have ho : ops[k]? = some ops[k] := Array.getElem?_eq_getElem hks
  obtain ⟨F1, S⟩ := fr.st k _ hk ho
  have hl : ∃ r : Tm × Hp, Fs (k + 1) = putQ ops[k] F1 h r.1 := by
    have := S.st
    generalize evStep P call ops ops[k] (only (ops[k].looksAt ops) F1) h = T at this
    induction T with
    | ok r => exact ⟨r, this.2⟩
    | bad _ => exact this.elim
    | br b x y ihx ihy =>
      cases b
      · exact ihy (this.2 rfl)
      · exact ihx (this.1 rfl)
    | all x y ihx _ => exact ihx this.1
  obtain ⟨r, hr⟩ := hl
  rw [hr]
  refine ⟨(putQ_same).1.trans S.nt, (putQ_same).2.trans S.df, fun t ht E v hv => ?_⟩
  rw [putQ_other (ht _ ho)]
  exact S.le t E v hv
theorem Frs.same (fr : Frs P call ops m h Fs) : ∀ k, k ≤ m → (Fs k).nt = (Fs 0).nt ∧ (Fs k).df = (Fs 0).df
  | 0, _ => ⟨rfl, rfl⟩
  | k + 1, hk => by
    obtain ⟨h1, h2, _⟩ := fr.one (k := k) (by omega)
    obtain ⟨h3, h4⟩ := fr.same k (by omega)
    exact ⟨h1.trans h3, h2.trans h4⟩
theorem Frs.mono (fr : Frs P call ops m h Fs) {t i : Nat} : ∀ j, i ≤ j → j ≤ m → (∀ k o, i ≤ k → k < j → ops[k]? = some o → o.dst ≠ some t) → LeT (Fs i) (Fs j) t
  | 0, hi, _, _ => by
    obtain rfl : i = 0 := by omega
    exact fun _ _ h => h
  | j + 1, hi, hj, hno => by
    rcases Nat.lt_or_ge i (j + 1) with hlt | hge
    · have ih := fr.mono (t := t) (i := i) j (by omega) (by omega) fun k o h1 h2 => hno k o h1 (by omega)
      obtain ⟨_, _, h3⟩ := fr.one (k := j) (by omega)
      exact fun E v hv => h3 t (fun o ho => hno j o (by omega) (by omega) ho) E v (ih E v hv)
    · obtain rfl : i = j + 1 := by omega
      exact fun _ _ h => h
/-- who writes a temporary writes it alone -/
theorem OkQ.alone (ok : OkQ P ops m) {t j i : Nat} {oj oi : Oper} (hjm : j < m) (him : i < m) (hoj : ops[j]? = some oj) (hdj : oj.dst = some t) (hoi : ops[i]? = some oi) (hne : i ≠ j) : oi.dst ≠ some t :=
  (ok.pair i oi j oj t him hjm hoi hoj (Ne.symm hne) hdj).1
/-- what stands when so many have come up -/
structure InvQ (P : Program) (w0 : World) (G : Nat → Prop) (ops : Array Oper) (m : Nat) (h : Hp) (Fs : Nat → Tm) (bl : Nat → Nat) (listed : Array Bool) (E : Env) (w : World) (a : Act) : Prop where
  sz : a.tmps.size = (Fs 0).nt
  df : LaidD E (Fs 0).df a.defers
  ls : listed.size = ops.size
  put : ∀ t k o, k < m → ops[k]? = some o → o.dst = some t → listed.getD k true = true → Rel E (look t (Fs (k + 1)).tm) (a.tmps.getD t undef)
  old : ∀ t, (∀ k o, k < m → ops[k]? = some o → o.dst = some t → listed.getD k true = false) → Rel E (look t (Fs 0).tm) (a.tmps.getD t undef)
  cl : ∀ k o, k < m → ops[k]? = some o → listed.getD k true = true → ∀ e ∈ o.after, Region.binds .any e = true → listed.getD e.on false = true
  suf : ∀ k, m ≤ k → k < ops.size → listed.getD k true = false
  al : ∀ k o e d, k < m → ops[k]? = some o → isAllocO o = true → o.op = .alloc e → o.dst = some d → listed.getD k true = true → ∃ cs, zeroA P e = some cs ∧ Held w0 G E w (calmL h cs) (bl k) (a.tmps.getD d undef)
  inj : ∀ k k' o o', k < m → k' < m → ops[k]? = some o → ops[k']? = some o' → isAllocO o = true → isAllocO o' = true → listed.getD k true = true → listed.getD k' true = true → bl k = bl k' → k = k'
theorem listed_lt {listed : Array Bool} (hs : listed.size = ops.size) {j : Nat} {d : Bool} (hj : j < ops.size) (h : listed.getD j d = true) (d' : Bool) : listed.getD j d' = true := by
  rw [Array.getD_eq_getD_getElem?, Array.getElem?_eq_getElem (by omega)] at h ⊢
  exact h
variable {bl : Nat → Nat}
/-- what an operation looks at, when it comes up -/
theorem InvQ.looks {listed : Array Bool} {E : Env} {w : World} {a : Act} (fr : Frs P call ops m h Fs) (I : InvQ P w0 G ops m h Fs bl listed E w a) {k : Nat} {o : Oper} (hkm : k < m) (hk : k ∈ Region.ready .any ops listed) (ho : ops[k]? = some o) {t : Nat} (ht : t ∈ o.looksAt ops) : Rel E (look t (Fs k).tm) (a.tmps.getD t undef) := by
  obtain ⟨hun, o', ho', hall⟩ := mem_ready.1 hk
  obtain rfl : o = o' := Option.some.inj (ho.symm.trans ho')
  have hms := fr.ok.le
  by_cases hw : ∃ (j : Nat) (oj : Oper), j < m ∧ ops[j]? = some oj ∧ oj.dst = some t ∧ j ≠ k
  · obtain ⟨j, oj, hjm, hoj, hdj, hne⟩ := hw
    rcases (fr.ok.pair k o j oj t hkm hjm ho hoj hne hdj).2 ht with hwt | hwt
    · obtain ⟨e, he, hb, rfl⟩ := waits_on hwt
      have hlt := fr.ok.top k o ho e he hb
      have hlj := getD_of_true (hall e he hb) true
      exact fr.mono k (by omega) (by omega) (fun i oi h1 h2 hoi => fr.ok.alone hjm (by omega) hoj hdj hoi (by omega)) E _ (I.put t _ oj hjm hoj hdj hlj)
    · obtain ⟨e, he, hb, hek⟩ := waits_on hwt
      have hlt := fr.ok.top j oj hoj e he hb
      rw [hek] at hlt
      have huj : listed.getD j true = false := by
        cases hlj : listed.getD j true
        · rfl
        · have := I.cl j oj hjm hoj hlj e he hb
          rw [hek] at this
          rw [getD_of_true this true] at hun
          cases hun
      refine fr.mono k (Nat.zero_le _) (by omega) (fun i oi _ h2 hoi => fr.ok.alone hjm (by omega) hoj hdj hoi (by omega)) E _ (I.old t fun i oi him hoi hdi => ?_)
      by_cases hij : i = j
      · subst hij; exact huj
      · exact absurd hdi (fr.ok.alone hjm him hoj hdj hoi hij)
  · refine fr.mono k (Nat.zero_le _) (by omega) (fun i oi _ h2 hoi hdi => hw ⟨i, oi, by omega, hoi, hdi, by omega⟩) E _ (I.old t fun i oi him hoi hdi => ?_)
    by_cases hik : i = k
    · subst hik; exact hun
    · exact absurd ⟨i, oi, him, hoi, hdi, hik⟩ hw
/-- who comes up while one of the first lacks is one of the first -/
theorem InvQ.ready_lt {listed : Array Bool} {E : Env} {w : World} {a : Act} (fr : Frs P call ops m h Fs) (I : InvQ P w0 G ops m h Fs bl listed E w a) {i k : Nat} (him : i < m) (hun : listed.getD i true = false) (hk : k ∈ Region.ready .any ops listed) : k < m := by
  have hms := fr.ok.le
  rcases Nat.lt_or_ge k m with h | hge
  · exact h
  · have hks : k < ops.size := by
      obtain ⟨_, o, ho, _⟩ := mem_ready.1 hk
      exact (Array.getElem?_eq_some_iff.1 ho).1
    obtain ⟨_, o, ho, hall⟩ := mem_ready.1 hk
    have key : ∀ c, c ≤ m → ∀ q ∈ cov ops k m c, q < m ∧ listed.getD q false = true := fun c => by
      induction c with
      | zero => intro _ q hq; cases hq
      | succ c ih =>
        intro hc q hq
        have ih := ih (by omega)
        unfold cov at hq
        cases hb : wtB ops (m - (c + 1)) k || (cov ops k m c).any (fun j => wtB ops (m - (c + 1)) j)
        · rw [hb] at hq; exact ih q hq
        · rw [hb, cond_true] at hq
          rcases List.mem_cons.1 hq with rfl | hq
          · refine ⟨by omega, ?_⟩
            rcases (by simpa only [Bool.or_eq_true] using hb : wtB ops (m - (c + 1)) k = true ∨ (cov ops k m c).any (fun j => wtB ops (m - (c + 1)) j) = true) with h1 | h1
            · unfold wtB at h1
              rw [ho] at h1
              obtain ⟨e, he, hbe, heq⟩ := waits_on h1
              rw [← heq]; exact hall e he hbe
            · obtain ⟨j, hj, h2⟩ := List.any_eq_true.1 h1
              obtain ⟨hjm, hjl⟩ := ih j hj
              unfold wtB at h2
              split at h2
              · rename_i oj hoj
                obtain ⟨e, he, hbe, heq⟩ := waits_on h2
                rw [← heq]; exact I.cl j oj hjm hoj (getD_of_true hjl true) e he hbe
              · cases h2
          · exact ih q hq
    have := (key m (Nat.le_refl _) i (fr.ok.wait i k him hge hks)).2
    rw [getD_of_true this true] at hun
    cases hun
theorem quietO {o : Oper} (h : isQuietO P o = true) : ∀ F : Tm, deferA o F = none := fun F => by
  unfold deferA
  split
  · rename_i c hc
    unfold isQuietO earlyA isCallO isAllocO at h
    rw [hc] at h
    cases h
  · rfl
/-- how a new variable is made -/
theorem alloc_step {o : Oper} {F : Tm} {e d : Nat} (ha : isAllocO o = true) (hop : o.op = .alloc e) (hd : o.dst = some d) {K : Tm × Hp → Prop} (H : (evStep P call ops o F h).holds K) :
    (evStep P call ops o F h).holds fun r => K r ∧ ∃ cs, zeroA P e = some cs ∧ r.2 = (newA cs h).2 ∧ look d r.1.tm = .ptr h.nx 0 := by
  have hg : o.guard = none := by
    unfold isAllocO at ha
    rw [hop, hd] at ha
    cases hg : o.guard with
    | none => rfl
    | some _ => rw [hg] at ha; cases ha
  have e1 : evStep P call ops o F h = (match zeroA P e with | some cs => (putA F (some d) (newA cs h).1).bind fun F => .ok (F, (newA cs h).2) | none => .bad 84) := by
    unfold evStep guardA
    rw [hg]
    have hdf : deferA o F = none := by unfold deferA; rw [hop]
    simp only [hdf, evOp, hop]
    cases zeroA P e with
    | none => rfl
    | some cs => simp only [hd]; rfl
  rw [e1] at H ⊢
  cases hz : zeroA P e with
  | none => rw [hz] at H; exact H.elim
  | some cs =>
    rw [hz] at H
    simp only [putA] at H ⊢
    cases hb : Nat.blt d F.nt
    · rw [hb] at H; exact H.elim
    · rw [hb] at H
      refine ⟨H, cs, rfl, rfl, ?_⟩
      show look d ((d, AV.ptr h.nx 0) :: F.tm) = _
      simp [look_cons]
/-- the first part comes up, in whatever order -/
theorem part_one (hcall : CallOk P call) (fr : Frs P call ops m h Fs) {Es : Env} {ws : World}
    (hn : ∀ n bl E' a' w' listed, unl listed m ≤ 0 → ops.size ≤ n + m → Stepd P w0 G Es h ws E' h w' → InvQ P w0 G ops m h Fs bl listed E' w' a' → wpAny P .any ops Q n listed a' w') :
    ∀ (c n : Nat) {bl : Nat → Nat} {listed : Array Bool} {E : Env} {w : World} {a : Act}, unl listed m ≤ c → c + (ops.size - m) ≤ n → Stepd P w0 G Es h ws E h w → InvQ P w0 G ops m h Fs bl listed E w a → wpAny P .any ops Q n listed a w
  | 0, n, bl, listed, E, w, a, hu, hcn, S, I => hn n bl E a w listed hu (by have := fr.ok.le; omega) S I
  | c + 1, n, bl, listed, E, w, a, hu, hcn, S, I => by
    by_cases hall0 : ∃ i, i < m ∧ listed.getD i true = false
    case neg =>
      refine hn n bl E a w listed ?_ (by have := fr.ok.le; omega) S I
      have : ∀ q, q ≤ m → unl listed q = 0 := fun q => by
        induction q with
        | zero => intro _; rfl
        | succ q ih =>
          intro hq
          unfold unl
          rw [ih (by omega)]
          have : listed.getD q true = true := by
            cases hl : listed.getD q true
            · exact absurd ⟨q, by omega, hl⟩ hall0
            · rfl
          rw [this]; rfl
      exact Nat.le_of_eq (this m (Nat.le_refl _))
    obtain ⟨i0, hi0, hun0⟩ := hall0
    have hms := fr.ok.le
    obtain ⟨n, rfl⟩ : ∃ n', n = n' + 1 := ⟨n - 1, by omega⟩
    have hne : Region.ready .any ops listed ≠ [] := fun hr => by
      have : ∀ i, i < m → listed.getD i true = true := by
        intro i
        induction i using Nat.strongRecOn with
        | ind i ih =>
          intro hi
          cases hl : listed.getD i true
          · have ho : ops[i]? = some ops[i] := Array.getElem?_eq_getElem (by omega)
            have : i ∈ Region.ready .any ops listed := mem_ready.2 ⟨hl, _, ho, fun e he hb => by
              have hlt := fr.ok.top i _ ho e he hb
              exact listed_lt I.ls (by omega) (ih e.on hlt (by omega)) false⟩
            rw [hr] at this
            cases this
          · rfl
      rw [this i0 hi0] at hun0
      cases hun0
    refine ⟨fun hr => absurd hr hne, fun k hk => ?_⟩
    have hkm := I.ready_lt fr hi0 hun0 hk
    obtain ⟨hun, o, ho, hall⟩ := mem_ready.1 hk
    have hks : k < ops.size := (Array.getElem?_eq_some_iff.1 ho).1
    obtain ⟨F1, hS⟩ := fr.st k o hkm ho
    obtain ⟨hnt, hdf⟩ := fr.same k (by omega)
    have hT : RelT E (only (o.looksAt ops) F1) a := by
      refine ⟨I.sz.trans (hnt.symm.trans hS.nt.symm), fun t => ?_, by show LaidD E F1.df _; rw [hS.df, hdf]; exact I.df⟩
      show Rel E (look t ((o.looksAt ops).map fun t => (t, look t F1.tm))) _
      rw [look_only]
      split
      · rename_i ht; exact hS.le t E _ (I.looks fr hkm hk ho ht)
      · trivial
    have hcount := unl_set hun m
    rw [if_pos hkm] at hcount
    have hgk : (listed.setIfInBounds k true).getD k true = true := by
      rw [Array.getD_eq_getD_getElem?, Array.getElem?_setIfInBounds_self_of_lt (by rw [I.ls]; exact hks)]; rfl
    -- behind the step
    have fin : ∀ {F2 : Tm} {h2 : Hp} {E2 : Env} {v : Value} {w2 : World}, quietH h h2 = true → Fs (k + 1) = putQ o F1 h F2 → Stepd P w E.mine E h w E2 h2 w2 → RelT E2 F2 (a.put o.dst v) →
        (∀ e d, isAllocO o = true → o.op = .alloc e → o.dst = some d → ∃ cs, zeroA P e = some cs ∧ h2 = (newA cs h).2 ∧ look d F2.tm = .ptr h.nx 0) →
        wpAny P .any ops Q n (listed.setIfInBounds k true) (a.put o.dst v) w2 := fun {F2 h2 E2 v w2} hqu hF hsm hT2 hal => by
      have hs2 := hsm.under S.inv
      have S3 := S.inv.forget hs2 hqu
      have hcalm := calm_rel S.inv hs2 hqu
      have hoth : ∀ {t i : Nat} {oi : Oper}, i < m → ops[i]? = some oi → oi.dst = some t → i ≠ k → (a.put o.dst v).tmps.getD t undef = a.tmps.getD t undef := fun him hoi hdi hne => put_other (fr.ok.alone him hkm hoi hdi ho (Ne.symm hne))
      have hset : ∀ {i : Nat}, i ≠ k → (listed.setIfInBounds k true).getD i true = listed.getD i true := fun hne => getD_set_ne true (Ne.symm hne)
      refine part_one hcall fr hn c n (bl := fun i => if i = k then E2.β h.nx else bl i) (by omega) (by omega) (S.trans S3) ⟨put_size.trans I.sz, by rw [put_defers]; exact I.df.mono S3.ext, by rw [Array.size_setIfInBounds]; exact I.ls, fun t i oi him hoi hdi hli => ?_, fun t hun' => ?_, fun i oi him hoi hli e he hb => ?_, fun i hmi his => ?_, fun i oi e d him hoi hai hopi hdi hli => ?_, fun i i' oi oi' him him' hoi hoi' hai hai' hli hli' heq => ?_⟩
      · by_cases hik : i = k
        · subst hik
          obtain rfl : oi = o := Option.some.inj (hoi.symm.trans ho)
          rw [hF]
          unfold putQ
          rw [hdi]
          simp only [look_cons]
          have : Nat.beq t t = true := by simp
          rw [this, cond_true]
          have := hT2.tm t
          rw [hdi] at this
          exact hcalm _ _ this
        · rw [hoth him hoi hdi hik]
          rw [hset hik] at hli
          exact Rel.mono S3.ext _ _ (I.put t i oi him hoi hdi hli)
      · have hdk : o.dst ≠ some t := fun e => by
          have := hun' k o hkm ho e
          rw [hgk] at this
          cases this
        rw [put_other hdk]
        refine Rel.mono S3.ext _ _ (I.old t fun i oi him hoi hdi => ?_)
        have hik : i ≠ k := fun e => by subst e; obtain rfl : oi = o := Option.some.inj (hoi.symm.trans ho); exact hdk hdi
        have := hun' i oi him hoi hdi
        rwa [hset hik] at this
      · by_cases hik : i = k
        · subst hik
          obtain rfl : oi = o := Option.some.inj (hoi.symm.trans ho)
          exact getD_set_true (hall e he hb)
        · rw [hset hik] at hli
          exact getD_set_true (I.cl i oi him hoi hli e he hb)
      · rw [hset (by omega)]; exact I.suf i hmi his
      · by_cases hik : i = k
        · subst hik
          obtain rfl : oi = o := Option.some.inj (hoi.symm.trans ho)
          obtain ⟨cs, hz, rfl, hlk⟩ := hal e d hai hopi hdi
          have hv := hT2.tm d
          rw [hlk, hdi] at hv
          refine ⟨cs, hz, ?_⟩
          rw [if_pos rfl, hdi]
          exact (held_new S.inv hsm hqu hv).1
        · rw [hset hik] at hli
          obtain ⟨cs, hz, hH⟩ := I.al i oi e d him hoi hai hopi hdi hli
          rw [if_neg hik, hoth him hoi hdi hik]
          exact ⟨cs, hz, hH.step hsm⟩
      · have far : ∀ {j : Nat} {oj : Oper}, j < m → ops[j]? = some oj → isAllocO oj = true → j ≠ k → listed.getD j true = true → isAllocO o = true → bl j ≠ E2.β h.nx := fun {j oj} hjm hoj haj hjk hlj hao he => by
          obtain ⟨e0, he0, d0, hd0⟩ : ∃ e0, o.op = .alloc e0 ∧ ∃ d0, o.dst = some d0 := by
            unfold isAllocO at hao
            split at hao
            · rename_i h1 _ h3; exact ⟨_, h1, _, h3⟩
            · cases hao
          obtain ⟨e1, he1, d1, hd1⟩ : ∃ e0, oj.op = .alloc e0 ∧ ∃ d0, oj.dst = some d0 := by
            unfold isAllocO at haj
            split at haj
            · rename_i h1 _ h3; exact ⟨_, h1, _, h3⟩
            · cases haj
          obtain ⟨cs, hz, rfl, hlk⟩ := hal e0 d0 hao he0 hd0
          have hv := hT2.tm d0
          rw [hlk, hd0] at hv
          have h1 := (held_new S.inv hsm hqu hv).2
          obtain ⟨cs', _, hH⟩ := I.al j oj e1 d1 hjm hoj haj he1 hd1 hlj
          have h2 := hH.lt
          rw [he] at h2
          omega
        by_cases hik : i = k <;> by_cases hik' : i' = k
        · rw [hik, hik']
        · rw [if_pos hik, if_neg hik'] at heq
          rw [hset hik'] at hli'
          subst hik
          obtain rfl : oi = o := Option.some.inj (hoi.symm.trans ho)
          exact absurd heq.symm (far him' hoi' hai' hik' hli' hai)
        · rw [if_neg hik, if_pos hik'] at heq
          rw [hset hik] at hli
          subst hik'
          obtain rfl : oi' = o := Option.some.inj (hoi'.symm.trans ho)
          exact absurd heq (far him hoi hai hik hli hai')
        · rw [if_neg hik, if_neg hik'] at heq
          rw [hset hik] at hli
          rw [hset hik'] at hli'
          exact I.inj i i' oi oi' him him' hoi hoi' hai hai' hli hli' heq
    unfold wpOp
    rw [ho]
    cases hao : isAllocO o
    · exact evStepQ_ok hcall (quietO (fr.ok.kind k o hkm ho)) hS.st S.inv.top hT fun F2 h2 E2 v w2 hk2 hs2 hT2 => fin hk2.1 hk2.2 hs2 hT2 fun e d h1 => by rw [hao] at h1; cases h1
    · obtain ⟨e0, he0, d0, hd0⟩ : ∃ e0, o.op = .alloc e0 ∧ ∃ d0, o.dst = some d0 := by
        have hao' := hao
        unfold isAllocO at hao'
        split at hao'
        · rename_i h1 _ h3; exact ⟨_, h1, _, h3⟩
        · cases hao'
      refine evStepQ_ok hcall (quietO (fr.ok.kind k o hkm ho)) (alloc_step hao he0 hd0 hS.st) S.inv.top hT fun F2 h2 E2 v w2 hk2 hs2 hT2 => fin hk2.1.1 hk2.1.2 hs2 hT2 fun e d _ h1 h2 => ?_
      rw [he0] at h1
      rw [hd0] at h2
      cases h1
      cases h2
      exact hk2.2
end
end
section
variable {P : Program} {w0 : World} {G : Nat → Prop} {Q : Exit → Act → World → Prop} {ops : Array Oper} {Fs : Nat → Tm} {call : FuncId → Spec} {h : Hp} {m : Nat} {bl : Nat → Nat}
theorem unl_zero {listed : Array Bool} : ∀ {n : Nat}, unl listed n ≤ 0 → ∀ i, i < n → listed.getD i true = true
  | 0, _, i, hi => by omega
  | n + 1, hu, i, hi => by
    unfold unl at hu
    by_cases hin : i = n
    · subst hin
      cases hl : listed.getD i true
      · rw [hl] at hu; simp at hu
      · rfl
    · exact unl_zero (n := n) (by omega) i (by omega)
/-- the others come up in their row -/
theorem part_two (hcall : CallOk P call) (ok : OkQ P ops m) {K : Tm × Hp → Prop} : ∀ (c n k : Nat) {listed : Array Bool} {F : Tm} {h : Hp} {E : Env} {w : World} {a : Act}, ops.size ≤ k + c → m ≤ k → k ≤ ops.size → listed.size = ops.size → (∀ i, i < ops.size → listed.getD i true = Nat.blt i k) →
    (evList P call ops (ops.toList.drop k) F h).holds K → Inv P w0 G E h w → RelT E F a → Cont P w0 G E h w K (Q .normal) → ops.size ≤ n + k → wpAny P .any ops Q n listed a w := by
  intro c
  induction c with
  | zero =>
    intro n k listed F h E w a hc hm hks hs hl H I hT hn hnk
    obtain rfl : k = ops.size := by omega
    have hr : Region.ready .any ops listed = [] := by
      cases hr : Region.ready .any ops listed with
      | nil => rfl
      | cons j r =>
        have hj : j ∈ Region.ready .any ops listed := by rw [hr]; exact List.mem_cons_self
        obtain ⟨hun, o, ho, _⟩ := mem_ready.1 hj
        have hjs := (Array.getElem?_eq_some_iff.1 ho).1
        rw [hl j hjs, lt_blt hjs] at hun
        cases hun
    have hd : ops.toList.drop ops.size = [] := List.drop_eq_nil_of_le (by simp)
    rw [hd] at H
    have hq : Q .normal a w := hn _ _ _ _ _ H (Stepd.refl I) hT
    cases n with
    | zero => exact ⟨hr, hq⟩
    | succ n => exact ⟨fun _ => hq, fun j hj => by rw [hr] at hj; cases hj⟩
  | succ c ih =>
    intro n k listed F h E w a hc hm hks hs hl H I hT hn hnk
    by_cases hke : k = ops.size
    · exact ih n k (by omega) hm hks hs hl H I hT hn hnk
    have hlt : k < ops.size := by omega
    obtain ⟨n, rfl⟩ : ∃ n', n = n' + 1 := ⟨n - 1, by omega⟩
    have ho : ops[k]? = some ops[k] := Array.getElem?_eq_getElem hlt
    have hself : Nat.blt k k = false := by
      cases hb : Nat.blt k k
      · rfl
      · have := blt_lt hb; omega
    have hkr : k ∈ Region.ready .any ops listed := mem_ready.2 ⟨by rw [hl k hlt]; exact hself, _, ho, fun e he hb => by
      have h1 := ok.top k _ ho e he hb
      exact listed_lt hs (by omega) (by rw [hl e.on (by omega)]; exact lt_blt h1) false⟩
    refine ⟨fun hr => (by rw [hr] at hkr; cases hkr), fun j hj => ?_⟩
    have hjk : j = k := by
      obtain ⟨hun, o, hoj, _⟩ := mem_ready.1 hj
      have hjs := (Array.getElem?_eq_some_iff.1 hoj).1
      rw [hl j hjs] at hun
      have hge : k ≤ j := by
        rcases Nat.lt_or_ge j k with h | h
        · rw [lt_blt h] at hun; cases hun
        · exact h
      rcases Nat.lt_or_ge k j with h | h
      · have := rdy_of (S := fun x => Nat.blt x k) hj fun x hx => by
          have hxs : x < ops.size := by
            rw [← hs]
            rcases Nat.lt_or_ge x listed.size with h | h
            · exact h
            · rw [Array.getD_eq_getD_getElem?, Array.getElem?_eq_none h] at hx; cases hx
          have := listed_lt hs hxs hx true
          rw [hl x hxs] at this
          exact this
        rw [ok.row k j hm h hjs] at this
        cases this
      · omega
    subst hjk
    have hdr : ops.toList.drop j = ops[j] :: ops.toList.drop (j + 1) := by
      rw [List.drop_eq_getElem_cons (by simpa using hlt)]
      simp
    rw [hdr, evList_cons, RT.holds_bind] at H
    unfold wpOp
    rw [ho]
    refine evStep_ok hcall H I hT fun F' h' E' a' w' hk hs' hT' => ?_
    refine ih n (j + 1) (by omega) (by omega) (by omega) (by rw [Array.size_setIfInBounds]; exact hs) (fun i hi => ?_) hk hs'.inv hT' (hn.step hs') (by omega)
    by_cases hij : i = j
    · subst hij
      rw [Array.getD_eq_getD_getElem?, Array.getElem?_setIfInBounds_self_of_lt (by omega)]
      exact (lt_blt (Nat.lt_succ_self i)).symm
    · rw [getD_set_ne true (Ne.symm hij), hl i hi]
      cases h1 : Nat.blt i j <;> cases h2 : Nat.blt i (j + 1)
      · rfl
      · have := blt_lt h2
        have h3 : i < j := by omega
        rw [lt_blt h3] at h1; cases h1
      · have := blt_lt h1
        have h3 : i < j + 1 := by omega
        rw [lt_blt h3] at h2; cases h2
      · rfl
/-- the new variables are taken in -/
theorem adopt_ok {h0 : Hp} {w : World} {a : Act} {K : Tm × Hp → Prop} : ∀ (l : List Oper) (bl : Nat → Nat) (F : Tm) (h : Hp) (E : Env), (adoptQ P h0 l F h).holds K → Inv P w0 G E h w → RelT E F a →
    (∀ i o e d, l[i]? = some o → isAllocO o = true → o.op = .alloc e → o.dst = some d → ∃ cs, zeroA P e = some cs ∧ Held w0 G E w (calmL h0 cs) (bl i) (a.tmps.getD d undef)) →
    (∀ i i' o o', l[i]? = some o → l[i']? = some o' → isAllocO o = true → isAllocO o' = true → bl i = bl i' → i = i') →
    ∃ F' h' E', K (F', h') ∧ Stepd P w0 G E h w E' h' w ∧ RelT E' F' a
  | [], bl, F, h, E, H, I, hT, _, _ => ⟨F, h, E, H, Stepd.refl I, hT⟩
  | o :: l, bl, F, h, E, H, I, hT, hal, hinj => by
    have hinj' : ∀ i i' o o', l[i]? = some o → l[i']? = some o' → isAllocO o = true → isAllocO o' = true → bl (i + 1) = bl (i' + 1) → i = i' := fun i i' o1 o2 h1 h2 h3 h4 h5 => by
      have := hinj (i + 1) (i' + 1) o1 o2 (by simpa using h1) (by simpa using h2) h3 h4 h5
      omega
    have H' : (bif isAllocO o then (match o.op, o.dst with
      | .alloc e, some d => match zeroA P e with
        | some cs => adoptQ P h0 l { F with tm := (d, .ptr h.nx 0) :: F.tm } (newA (calmL h0 cs) h).2
        | none => .bad 235
      | _, _ => .bad 236) else adoptQ P h0 l F h : RT (Tm × Hp)).holds K := H
    cases ha : isAllocO o
    · rw [ha] at H'
      exact adopt_ok l (fun i => bl (i + 1)) F h E H' I hT (fun i o' e d ho => hal (i + 1) o' e d (by simpa using ho)) hinj'
    · rw [ha] at H'
      simp only [cond_true] at H'
      obtain ⟨e0, he0, d0, hd0⟩ : ∃ e0, o.op = .alloc e0 ∧ ∃ d0, o.dst = some d0 := by
        have ha' := ha
        unfold isAllocO at ha'
        split at ha'
        · rename_i h1 _ h3; exact ⟨_, h1, _, h3⟩
        · cases ha'
      rw [he0, hd0] at H'
      obtain ⟨cs, hz, hH⟩ := hal 0 o e0 d0 rfl ha he0 hd0
      simp only [hz] at H'
      obtain ⟨E1, S1, r1, hk1⟩ := I.adopt hH
      have hT1 : RelT E1 { F with tm := (d0, .ptr h.nx 0) :: F.tm } a := by
        refine ⟨hT.sz, fun t => ?_, hT.df.mono S1.ext⟩
        simp only [look_cons]
        cases hb : Nat.beq d0 t
        · exact Rel.mono S1.ext _ _ (hT.tm t)
        · obtain rfl := Nat.eq_of_beq_eq_true hb
          exact r1
      obtain ⟨F', h', E', k1, k2, k3⟩ := adopt_ok l (fun i => bl (i + 1)) _ _ E1 H' S1.inv hT1 (fun i o' e d ho hao' heo hdo => by
        obtain ⟨cs', hz', hH'⟩ := hal (i + 1) o' e d (by simpa using ho) hao' heo hdo
        refine ⟨cs', hz', hk1 _ _ _ (fun heq => ?_) hH'⟩
        have := hinj (i + 1) 0 o' o (by simpa using ho) rfl hao' ha heq
        omega) hinj'
      exact ⟨F', h', E', k1, S1.trans k2, k3⟩
theorem InvQ.done {listed : Array Bool} {E : Env} {w : World} {a : Act} (fr : Frs P call ops m h Fs) (I : InvQ P w0 G ops m h Fs bl listed E w a) (hall : ∀ i, i < m → listed.getD i true = true) : RelT E (Fs m) a := by
  obtain ⟨h1, h2⟩ := fr.same m (Nat.le_refl _)
  refine ⟨I.sz.trans h1.symm, fun t => ?_, by rw [h2]; exact I.df⟩
  by_cases hw : ∃ (j : Nat) (oj : Oper), j < m ∧ ops[j]? = some oj ∧ oj.dst = some t
  · obtain ⟨j, oj, hjm, hoj, hdj⟩ := hw
    exact fr.mono m (by omega) (Nat.le_refl _) (fun i oi h1 h2 hoi => fr.ok.alone hjm h2 hoj hdj hoi (by omega)) E _ (I.put t j oj hjm hoj hdj (hall j hjm))
  · exact fr.mono m (Nat.zero_le _) (Nat.le_refl _) (fun i oi _ h2 hoi hdi => hw ⟨i, oi, h2, hoi, hdi⟩) E _ (I.old t fun i oi him hoi hdi => absurd ⟨i, oi, him, hoi, hdi⟩ hw)
/-- **such a region** -/
theorem evReg_ok (hcall : CallOk P call) (hr : quietR P ops = true) {F : Tm} {K : Tm × Hp → Prop} (H : (evReg P call ops F h).holds K) {E : Env} {w : World} {a : Act} (I : Inv P w0 G E h w) (hT : RelT E F a)
    (hn : Cont P w0 G E h w K (Q .normal)) : wpAny P .any ops Q ops.size (Array.replicate ops.size false) a w := by
  have ok := okQ_ok hr
  unfold evReg at H
  rw [RT.holds_bind] at H
  generalize hm : leadQ P ops.toList = m at H ok
  obtain ⟨Fs, g1, g2, g3⟩ := evQs_frames (ops.toList.take m) F H
  have hle := ok.le
  have hlen : (ops.toList.take m).length = m := by rw [List.length_take]; simp; omega
  have hget : ∀ (i : Nat) (o : Oper), i < m → ((ops.toList.take m)[i]? = some o ↔ ops[i]? = some o) := fun i o hi => by
    rw [List.getElem?_take_of_lt hi, Array.getElem?_toList]
  have fr : Frs P call ops m h Fs := ⟨fun k o hk ho => g2 k o ((hget k o hk).2 ho), ok⟩
  rw [hlen] at g3
  have hf : ∀ (k : Nat), k < ops.size → (Array.replicate ops.size false).getD k true = false := fun k hk => by
    rw [Array.getD_eq_getD_getElem?, Array.getElem?_replicate, if_pos hk]; rfl
  have hf' : ∀ (k : Nat) (o : Oper), ops[k]? = some o → (Array.replicate ops.size false).getD k true = false := fun k o ho => hf k (Array.getElem?_eq_some_iff.1 ho).1
  refine part_one hcall fr (Es := E) (ws := w) (fun n bl E' a' w' listed hu hnm S' I' => ?_) m ops.size (bl := fun _ => 0) (unl_le _ _) (by omega) (Stepd.refl I)
    ⟨by rw [g1]; exact hT.sz, by rw [g1]; exact hT.df, by simp, fun t k o _ ho _ hl => ?_, fun t _ => by rw [g1]; exact hT.tm t, fun k o _ ho hl => ?_, fun k _ hk => hf k hk, fun k o e d _ ho _ _ _ hl => ?_, fun k k' o o' _ _ ho _ _ _ hl => ?_⟩
  · have hall := unl_zero hu
    have hT' := I'.done fr hall
    rw [RT.holds_bind] at g3
    obtain ⟨F2, h2, E2, k1, k2, k3⟩ := adopt_ok (ops.toList.take m) bl (Fs m) h E' g3 S'.inv hT'
      (fun i o e d ho hao heo hdo => by
        have him : i < m := by have := (List.getElem?_eq_some_iff.1 ho).1; omega
        exact I'.al i o e d him ((hget i o him).1 ho) hao heo hdo (hall i him))
      (fun i i' o o' ho ho' hao hao' heq => by
        have him : i < m := by have := (List.getElem?_eq_some_iff.1 ho).1; omega
        have him' : i' < m := by have := (List.getElem?_eq_some_iff.1 ho').1; omega
        exact I'.inj i i' o o' him him' ((hget i o him).1 ho) ((hget i' o' him').1 ho') hao hao' (hall i him) (hall i' him') heq)
    refine part_two hcall ok ops.size n m (by omega) (Nat.le_refl _) hle I'.ls (fun i hi => ?_) k1 k2.inv k3 (hn.step (S'.trans k2)) hnm
    rcases Nat.lt_or_ge i m with h | h
    · rw [hall i h, lt_blt h]
    · rw [I'.suf i h hi]
      cases hb : Nat.blt i m
      · rfl
      · have := blt_lt hb; omega
  · rw [hf' k o ho] at hl; cases hl
  · rw [hf' k o ho] at hl; cases hl
  · rw [hf' k o ho] at hl; cases hl
  · rw [hf' k o ho] at hl; cases hl
end
end
end Go.Proofs.YtomblhnchdokmaaGreatDoor

namespace Go.Proofs.YtomblhnchdokmaaGreatDoor
set_option linter.unusedSimpArgs false
set_option linter.unusedVariables false
open Go.RowKit
set_option maxRecDepth 10000
noncomputable section
section
variable {P : Program} {w0 : World} {G : Nat → Prop} {Q : Exit → Act → World → Prop} {ops : Array Oper} {call : FuncId → Spec}
theorem asLate_ok {Λ : FuncId → Nat → Option BSpec} {f id : Nat} (h : asLate P Λ f id ops = true) : lateR P ops = true := by
  unfold asLate at h
  split at h
  · cases h
  · exact h
theorem allocF_alloc {o : Oper} (h : allocF P o = true) : isAllocO o = true ∧ (∀ e ∈ o.after, Region.binds .any e = false) ∧ ∃ e d cs, o.op = .alloc e ∧ o.dst = some d ∧ zeroA P e = some cs := by
  unfold allocF at h
  simp only [Bool.and_eq_true] at h
  obtain ⟨⟨h1, h2⟩, h3⟩ := h
  refine ⟨h1, fun e he => ?_, ?_⟩
  · cases hb : Region.binds .any e
    · rfl
    · have : o.after.any (fun e => Region.binds .any e) = true := Array.any_eq_true'.2 ⟨e, he, hb⟩
      rw [this] at h2; cases h2
  · unfold isAllocO at h1
    split at h1
    · rename_i e d h4 _ h5
      rw [h4] at h3
      obtain ⟨cs, hc⟩ := Option.isSome_iff_exists.1 h3
      exact ⟨_, _, cs, h4, h5, hc⟩
    · cases h1
theorem alloc_waits {o : Oper} (h : allocF P o = true) (i : Nat) : waits i o = false := by
  unfold waits
  rw [Array.any_eq_false']
  intro e he
  rw [(allocF_alloc h).2.1 e he]
  simp
theorem kept_alloc {i : Nat} {o : Oper} (ho : ops[i]? = some o) (h : allocF P o = true) (spr : SPrm) : kept ops i spr = spr := by
  unfold kept
  rw [List.filter_eq_self]
  intro p _
  unfold depends
  rw [ho]
  show (!waits p.1 o) = true
  rw [alloc_waits h]
  rfl
theorem keepP_alloc {o : Oper} (h : allocF P o = true) : ∀ pr : Prm, keepP o pr = pr
  | [] => rfl
  | p :: r => by unfold keepP; rw [alloc_waits h, cond_false, keepP_alloc h r]
theorem Met.keeps {E : Env} {h : Hp} {w : World} {pr : Prm} {spr : SPrm} (H : Met E h w pr spr) : keeps h pr = true := by
  induction H with
  | nil => rfl
  | pure _ _ _ _ ih => exact ih
  | load i b n T hl hc hz _ ih =>
    unfold Go.Proofs.YtomblhnchdokmaaGreatDoor.keeps
    rw [ih, hc]; simp
theorem calmL_zero {h : Hp} {e : TypeId} {cs : List AV} (hz : zeroA P e = some cs) : calmL h cs = cs := by
  have key : ∀ l : List Value, calmL h (l.map (.sc true)) = l.map (.sc true) := fun l => by
    induction l with
    | nil => rfl
    | cons x l ih => simp only [List.map_cons, calmL, ih]; rfl
  unfold zeroA at hz
  split at hz
  · rename_i z _
    unfold ofConst at hz
    split at hz
    · rename_i c _
      cases hb : c.toList.all Value.oneCell'
      · rw [hb] at hz; cases hz
      · rw [hb] at hz
        have : some (c.toList.map (AV.sc true)) = some cs := hz
        cases this
        exact key _
    · cases hz
    · have : some [AV.sc true z] = some cs := hz
      cases this
      exact key [z]
  · cases hz
theorem quiet_newA {E : Env} {h : Hp} {w : World} (I : Inv P w0 G E h w) (cs : List AV) : quietH h (newA cs h).2 = true := by
  unfold quietH
  rw [Bool.and_eq_true, List.all_eq_true, List.all_eq_true]
  refine ⟨fun o ho => ?_, fun k hk => ?_⟩
  · have : o ≠ h.nx := by have := List.mem_range.1 ho; omega
    simp only [ver, newA, cnt_cons, if_neg (fun e : h.nx = o => this e.symm)]
    simp
  · have := I.gn k (List.mem_range.1 hk)
    simp only [newA]
    rw [this]
    simp
theorem Held.stepN {E E2 : Env} {h h2 : Hp} {w w2 : World} (S : Stepd P w E.mine E h w E2 h2 w2) {cs : List AV} {b : Nat} {v : Value} (H : Held w0 G E w cs b v) : Held w0 G E2 w2 cs b v := by
  have hlt := H.lt
  refine ⟨H.ptr, ?_, H.own, fun o ho e => ?_, fun j => ?_, fun k hk e => ?_⟩
  · obtain ⟨vs, ob, g1, g2, g3⟩ := H.ob
    exact ⟨vs, ob, (S.inv.kpt.block b hlt H.not_mine).trans g1, RelL.mono S.ext _ _ g2, g3⟩
  · rcases S.inv.own o ho with h | h
    · omega
    · rw [e] at h; exact H.not_mine h
  · cases hz : E2.Z b j with
    | none => rfl
    | some u =>
      rcases S.zn b j u hz with h | h | h
      · rw [H.z j] at h; cases h
      · omega
      · exact absurd h H.not_mine
  · obtain ⟨_, _, _, _, _, _, g4⟩ := S.inv.vec k (by rw [← S.inv.m]; exact hk)
    rcases (g4 b e).1 with h | h
    · omega
    · exact H.not_mine h
theorem wpL_done {n : Nat} {listed : Array Bool} {spr : SPrm} {a : Act} {w : World} (h : Region.ready .any ops listed = []) (hq : Q .normal a w) : wpL P ops Q n listed spr a w := by
  cases n with
  | zero => exact ⟨h, hq⟩
  | succ n => exact ⟨fun _ => hq, by rw [h]; simp⟩
/-- what is empty stays so -/
def Still (dst : Option Nat) (F F' : Tm) : Prop := ∀ t, dst ≠ some t → look t F.tm = .any → look t F'.tm = .any
theorem putA_still {F F1 : Tm} (hs : ∀ t, look t F.tm = .any → look t F1.tm = .any) {dst : Option Nat} {av : AV} {h : Hp} {K : Tm × Hp → Prop} (H : ((putA F1 dst av).bind fun F => .ok (F, h) : RT (Tm × Hp)).holds K) :
    ((putA F1 dst av).bind fun F => .ok (F, h) : RT (Tm × Hp)).holds fun r => K r ∧ Still dst F r.1 := by
  rw [RT.holds_bind] at H ⊢
  unfold putA at H ⊢
  split at H
  · exact ⟨H, fun t _ h => hs t h⟩
  · rename_i d
    cases hb : Nat.blt d F1.nt
    · rw [hb] at H; exact H.elim
    · rw [hb] at H
      refine ⟨H, fun t ht h => ?_⟩
      simp only [look_cons]
      cases hd : Nat.beq d t
      · exact hs t h
      · exact absurd (by rw [Nat.eq_of_beq_eq_true hd]) ht
theorem setA_still {F : Tm} {d : Nat} {b kn b' : Bool} (hl : look d F.tm = .sc kn (.bool b')) (t : Nat) (h : look t F.tm = .any) : look t (setA F d b).tm = .any := by
  simp only [setA, look_cons]
  cases hd : Nat.beq d t
  · exact h
  · rw [← Nat.eq_of_beq_eq_true hd, hl] at h; cases h
theorem evStep_still {o : Oper} (hdf : ∀ F : Tm, deferA o F = none) {F : Tm} {h : Hp} {K : Tm × Hp → Prop} (H : (evStep P call ops o F h).holds K) : (evStep P call ops o F h).holds fun r => K r ∧ Still o.dst F r.1 := by
  have go : ∀ F1 : Tm, (∀ t, look t F.tm = .any → look t F1.tm = .any) → (match deferA o F1 with
      | some r => r.bind fun F => .ok (F, h)
      | none => (evOp P call o F1 h).bind fun r => (putA F1 o.dst r.1).bind fun F => .ok (F, r.2) : RT (Tm × Hp)).holds K → (match deferA o F1 with
      | some r => r.bind fun F => .ok (F, h)
      | none => (evOp P call o F1 h).bind fun r => (putA F1 o.dst r.1).bind fun F => .ok (F, r.2) : RT (Tm × Hp)).holds fun r => K r ∧ Still o.dst F r.1 := fun F1 hs H => by
    rw [hdf F1] at H ⊢
    simp only at H ⊢
    rw [RT.holds_bind] at H ⊢
    exact RT.holds_mono (fun r hr => putA_still hs hr) _ H
  unfold evStep guardA at H ⊢
  split at H
  · exact go F (fun _ h => h) H
  · split at H
    · exact H.elim
    · rename_i d hd
      split at H
      · rename_i kn b hl
        have h1 := fun b' t h => setA_still (b := b') hl t h
        cases kn <;> cases b <;> rename_i want _ _ _ <;> cases want <;> simp only [brk, cond_true, cond_false] at H ⊢
        all_goals first
          | exact go _ (h1 _) H
          | exact putA_still (h1 _) H
          | exact ⟨fun hb => go _ (h1 _) (H.1 hb), fun hb => putA_still (h1 _) (H.2 hb)⟩
          | exact ⟨fun hb => putA_still (h1 _) (H.1 hb), fun hb => go _ (h1 _) (H.2 hb)⟩
      · exact putA_still (fun _ h => h) H
      · exact H.elim
/-! What is read next. -/
theorem early_not {o : Oper} (h : earlyA P o = true) : allocF P o = false := by
  cases ha : allocF P o
  · rfl
  · obtain ⟨_, _, e, d, cs, h1, _, _⟩ := allocF_alloc ha
    unfold earlyA at h
    rw [h1] at h
    cases h
theorem pick_early {listed : Array Bool} {i : Nat} (h : pickL P ops listed = .early i) : i ∈ Region.ready .any ops listed ∧ Region.free .any ops listed i = true ∧ ∃ o, ops[i]? = some o ∧ earlyA P o = true := by
  unfold pickL at h
  split at h
  · rename_i j hf
    cases hfr : Region.free .any ops listed j
    · rw [hfr] at h; cases h
    · rw [hfr] at h
      cases h
      refine ⟨List.mem_of_find?_eq_some hf, hfr, ?_⟩
      have := List.find?_some hf
      split at this
      · rename_i o ho; exact ⟨o, ho, this⟩
      · cases this
  · split at h
    · split at h
      · split at h <;> cases h
      · cases h
    · split at h <;> cases h
    · rename_i k l _ _
      cases hb : (Nat.blt l.length 3 && (k :: l).all (noWait P ops listed))
      · rw [hb] at h; cases h
      · rw [hb] at h; cases h
theorem nextV_some {listed : Array Bool} {q : Option Oper} {i : Nat} (h : nextV P ops listed q = some i) : i < ops.size ∧ listed.getD i true = false ∧ isLA P ops i = true ∧ ∀ o, q = some o → waits i o = true := by
  unfold nextV at h
  have h1 := List.mem_range.1 (List.mem_of_find?_eq_some h)
  have h2 := List.find?_some h
  simp only [Bool.and_eq_true, Bool.not_eq_true'] at h2
  exact ⟨h1, h2.1.1, h2.1.2, fun o hq => by subst hq; exact h2.2⟩
theorem nextV_none {listed : Array Bool} {o : Oper} (h : nextV P ops listed (some o) = none) {i : Nat} (hi : i < ops.size) (hw : waits i o = true) (hl : isLA P ops i = true) : listed.getD i true = true := by
  unfold nextV at h
  have := List.find?_eq_none.1 h i (List.mem_range.2 hi)
  simp only [hl, hw, Bool.and_true, Bool.not_eq_true', Bool.not_eq_false] at this
  exact this
theorem pick_fresh {listed : Array Bool} {i : Nat} (h : pickL P ops listed = .fresh i) : i < ops.size ∧ listed.getD i true = false ∧ isLA P ops i = true ∧ ∀ k ∈ candL P ops listed, ∃ o, ops[k]? = some o ∧ waits i o = true := by
  unfold pickL at h
  split at h
  · rename_i j hf
    cases hfr : Region.free .any ops listed j <;> rw [hfr] at h <;> cases h
  · split at h
    · rename_i k hc
      split at h
      · rename_i o ho
        split at h
        · rename_i j hj
          cases h
          obtain ⟨h1, h2, h3, h4⟩ := nextV_some hj
          refine ⟨h1, h2, h3, fun q hq => ?_⟩
          rw [hc] at hq
          obtain rfl := List.mem_singleton.1 hq
          exact ⟨o, ho, h4 o rfl⟩
        · cases h
      · cases h
    · rename_i hc
      split at h
      · rename_i j hj
        cases h
        obtain ⟨h1, h2, h3, _⟩ := nextV_some hj
        exact ⟨h1, h2, h3, fun q hq => by rw [hc] at hq; cases hq⟩
      · cases h
    · rename_i k l _ _
      cases hb : (Nat.blt l.length 3 && (k :: l).all (noWait P ops listed))
      · rw [hb] at h; cases h
      · rw [hb] at h; cases h
theorem pick_other {listed : Array Bool} {k : Nat} {l : List Nat} (h : pickL P ops listed = .other k l) : candL P ops listed = k :: l ∧ ∀ j ∈ k :: l, ∃ o, ops[j]? = some o ∧ nextV P ops listed (some o) = none := by
  unfold pickL at h
  split at h
  · rename_i j hf
    cases hfr : Region.free .any ops listed j <;> rw [hfr] at h <;> cases h
  · split at h
    · rename_i q hc
      split at h
      · rename_i o ho
        split at h
        · cases h
        · rename_i hj
          cases h
          refine ⟨hc, fun j hj' => ?_⟩
          obtain rfl := List.mem_singleton.1 hj'
          exact ⟨o, ho, hj⟩
      · cases h
    · split at h <;> cases h
    · rename_i q r _ hc
      cases hb : (Nat.blt r.length 3 && (q :: r).all (noWait P ops listed))
      · rw [hb] at h; cases h
      · rw [hb] at h
        cases h
        refine ⟨hc, fun j hj => ?_⟩
        rw [Bool.and_eq_true] at hb
        have := List.all_eq_true.1 hb.2 j hj
        unfold noWait at this
        split at this
        · rename_i o ho; exact ⟨o, ho, by simpa using this⟩
        · cases this
theorem allR_holds {α : Type} {K : α → Prop} {f : Nat → RT α} : ∀ {k : Nat} {l : List Nat}, (allR (f k) (l.map f)).holds K → ∀ j ∈ k :: l, (f j).holds K
  | k, [], h, j, hj => by obtain rfl := List.mem_singleton.1 hj; exact h
  | k, q :: l, h, j, hj => by
    rcases List.mem_cons.1 hj with rfl | hj
    · exact h.1
    · exact allR_holds h.2 j hj
theorem unl_pos {listed : Array Bool} {k n : Nat} (hk : listed.getD k true = false) (hn : k < n) : 1 ≤ unl listed n := by
  have := unl_set hk n
  rw [if_pos hn] at this
  omega
theorem set_self (listed : Array Bool) (k : Nat) : (listed.setIfInBounds k true).getD k true = true := by
  rw [Array.getD_eq_getD_getElem?]
  rcases Nat.lt_or_ge k listed.size with h | h
  · rw [Array.getElem?_setIfInBounds_self_of_lt h]; rfl
  · rw [Array.getElem?_eq_none (by simpa using h)]; rfl
/-- how the new variables stand -/
structure InvL (P : Program) (w0 : World) (G : Nat → Prop) (ops : Array Oper) (listed listedC : Array Bool) (bl : Nat → Nat) (E : Env) (w : World) (a : Act) (F : Tm) : Prop where
  ls : listed.size = ops.size
  lc : listedC.size = ops.size
  sub : ∀ i, listed.getD i true = true → listedC.getD i true = true
  ext : ∀ i, listedC.getD i true = true → listed.getD i true = false → isLA P ops i = true
  held : ∀ i o e d, ops[i]? = some o → allocF P o = true → o.op = .alloc e → o.dst = some d → listedC.getD i true = true → listed.getD i true = false → ∃ cs, zeroA P e = some cs ∧ Held w0 G E w cs (bl i) (a.tmps.getD d undef)
  inj : ∀ i i', listedC.getD i true = true → listed.getD i true = false → listedC.getD i' true = true → listed.getD i' true = false → bl i = bl i' → i = i'
  any : ∀ i o d, ops[i]? = some o → allocF P o = true → o.dst = some d → listed.getD i true = false → look d F.tm = .any
  fit : ∀ (i : Nat) (o : Oper) (d : Nat), ops[i]? = some o → allocF P o = true → o.dst = some d → d < a.tmps.size
section
variable {listed listedC : Array Bool} {bl : Nat → Nat} {E : Env} {w : World} {a : Act} {F : Tm} {h : Hp}
theorem InvL.subF (I : InvL P w0 G ops listed listedC bl E w a F) {i : Nat} (hi : listed.getD i false = true) : listedC.getD i false = true := by
  have hlt : i < ops.size := by
    rcases Nat.lt_or_ge i listed.size with h | h
    · rw [← I.ls]; exact h
    · rw [Array.getD_eq_getD_getElem?, Array.getElem?_eq_none h] at hi; cases hi
  exact listed_lt I.lc hlt (I.sub i (getD_of_true hi true)) false
theorem InvL.unC (I : InvL P w0 G ops listed listedC bl E w a F) {i : Nat} (hi : listedC.getD i true = false) : listed.getD i true = false := by
  cases hl : listed.getD i true
  · rfl
  · rw [I.sub i hl] at hi; cases hi
theorem InvL.ready (I : InvL P w0 G ops listed listedC bl E w a F) {j : Nat} (hj : j ∈ Region.ready .any ops listedC) : isLA P ops j = true ∨ j ∈ candL P ops listed := by
  obtain ⟨hun, o, ho, hall⟩ := mem_ready.1 hj
  have hjs : j < ops.size := (Array.getElem?_eq_some_iff.1 ho).1
  cases ha : allocF P o
  · refine .inr (List.mem_filter.2 ⟨List.mem_range.2 hjs, ?_⟩)
    unfold candB
    rw [ho]
    simp only [I.unC hun, ha, Bool.not_false, Bool.true_and]
    rw [Array.all_eq_true']
    intro e he
    cases hb : Region.binds .any e
    · rfl
    · have h1 := hall e he hb
      simp only [Bool.not_true, Bool.false_or, Bool.or_eq_true]
      have hes : e.on < ops.size := by
        rcases Nat.lt_or_ge e.on listedC.size with h | h
        · rw [← I.lc]; exact h
        · rw [Array.getD_eq_getD_getElem?, Array.getElem?_eq_none h] at h1; cases h1
      cases hl : listed.getD e.on true
      · exact .inr (I.ext e.on (getD_of_true h1 true) hl)
      · exact .inl (listed_lt I.ls hes hl false)
  · exact .inl (by unfold isLA; rw [ho]; exact ha)
theorem alloc_eval {o : Oper} {e d : Nat} {cs : List AV} (ha : allocF P o = true) (hop : o.op = .alloc e) (hd : o.dst = some d) (hz : zeroA P e = some cs) (hnt : d < F.nt) :
    evStep P call ops o F h = .ok ({ F with tm := (d, .ptr h.nx 0) :: F.tm }, (newA cs h).2) := by
  have hg : o.guard = none := by
    have hao := (allocF_alloc ha).1
    unfold isAllocO at hao
    rw [hop, hd] at hao
    cases hg : o.guard with
    | none => rfl
    | some _ => rw [hg] at hao; cases hao
  unfold evStep guardA
  rw [hg]
  have hdf : deferA o F = none := by unfold deferA; rw [hop]
  simp only [hdf, evOp, hop, hz, hd]
  show ((putA F (some d) (newA cs h).1).bind fun F => .ok (F, (newA cs h).2) : RT (Tm × Hp)) = _
  unfold putA
  simp only
  rw [lt_blt hnt]
  rfl
/-- a new variable comes up ahead of its time -/
theorem alloc_conc (hcall : CallOk P call) {j : Nat} {o : Oper} (ho : ops[j]? = some o) (ha : allocF P o = true) {e d : Nat} {cs : List AV} (hop : o.op = .alloc e) (hd : o.dst = some d) (hz : zeroA P e = some cs) (I : Inv P w0 G E h w) (hT : RelT E F a)
    (hnt : d < a.tmps.size) (hany : look d F.tm = .any) {next : Act → World → Prop}
    (hn : ∀ E3 v w2 b, Stepd P w0 G E h w E3 h w2 → Held w0 G E3 w2 cs b ((a.put o.dst v).tmps.getD d undef) → w.heap.size ≤ b → (∀ cs b v, Held w0 G E w cs b v → Held w0 G E3 w2 cs b v) → RelT E3 F (a.put o.dst v) → next (a.put o.dst v) w2) :
    wpOp P ops Q j next a w := by
  have hsz : d < F.nt := by rw [← hT.sz]; exact hnt
  have hdf : ∀ F : Tm, deferA o F = none := fun F => by unfold deferA; rw [hop]
  have H : (evStep P call ops o F h).holds fun r => r = ({ F with tm := (d, .ptr h.nx 0) :: F.tm }, (newA cs h).2) := by rw [alloc_eval ha hop hd hz hsz]; rfl
  unfold wpOp
  rw [ho]
  refine evStepQ_ok hcall hdf H I.top hT fun F2 h2 E2 v w2 hk hs hT2 => ?_
  injection hk with hk1 hk2
  subst hk1
  subst hk2
  have hq := quiet_newA I cs
  have hv := hT2.tm d
  have hlk : look d ((d, AV.ptr h.nx 0) :: F.tm) = .ptr h.nx 0 := by simp [look_cons]
  rw [hlk] at hv
  have S3 := I.forget (hs.under I) hq
  obtain ⟨n1, n2⟩ := held_new I hs hq hv
  rw [calmL_zero hz] at n1
  refine hn _ v w2 _ S3 n1 n2 (fun cs b v H => H.step hs) ⟨put_size.trans hT.sz, fun t => ?_, by rw [put_defers]; exact hT.df.mono S3.ext⟩
  by_cases ht : t = d
  · subst ht; rw [hany]; trivial
  · rw [put_other (by rw [hd]; intro e; exact ht (Option.some.inj e).symm)]
    exact Rel.mono S3.ext _ _ (hT.tm t)
end
/-- **such a region, whatever its order** -/
theorem late_ok (hcall : CallOk P call) (hns : Region.noSelect ops = true) (hdf : ∀ (i : Nat) (o : Oper), ops[i]? = some o → ∀ F : Tm, deferA o F = none)
    (hdst : ∀ (i j : Nat) (oi oj : Oper) (d : Nat), ops[i]? = some oi → allocF P oi = true → oi.dst = some d → ops[j]? = some oj → j ≠ i → oj.dst ≠ some d)
    (hQ : ∀ d v c a w, Q (.panic c) (Act.put a d v) w → Q (.panic c) a w) {K : Tm × Hp → Prop} :
    ∀ (m n nC : Nat) {listed listedC : Array Bool} {pr : Prm} {spr : SPrm} {F : Tm} {h : Hp} {E : Env} {w : World} {a : Act} {bl : Nat → Nat}, n + nC ≤ m → (evLate P call ops n listed pr F h).holds K → Inv P w0 G E h w → RelT E F a → Met E h w pr spr →
      InvL P w0 G ops listed listedC bl E w a F → unl listedC ops.size ≤ nC → Cont P w0 G E h w K (Q .normal) → wpL P ops Q nC listedC spr a w := by
  intro m
  induction m with
  | zero =>
    intro n nC listed listedC pr spr F h E w a bl hm H I hT hM IL hu hn
    obtain rfl : n = 0 := by omega
    unfold evLate at H
    cases hall : (List.range ops.size).all (fun i => listed.getD i true)
    · rw [hall] at H; exact H.elim
    · rw [hall] at H
      refine wpL_done (List.eq_nil_iff_forall_not_mem.2 fun j hj => ?_) (hn _ _ _ _ _ H (Stepd.refl I) hT)
      obtain ⟨hun, o, ho, _⟩ := mem_ready.1 hj
      have := List.all_eq_true.1 hall j (List.mem_range.2 (Array.getElem?_eq_some_iff.1 ho).1)
      rw [IL.sub j this] at hun; cases hun
  | succ m ih =>
    intro n nC listed listedC pr spr F h E w a bl hm H I hT hM IL hu hn
    have fin : (List.range ops.size).all (fun i => listed.getD i true) = true → K (F, h) → wpL P ops Q nC listedC spr a w := fun hall hK => by
      refine wpL_done (List.eq_nil_iff_forall_not_mem.2 fun j hj => ?_) (hn _ _ _ _ _ hK (Stepd.refl I) hT)
      obtain ⟨hun, o, ho, _⟩ := mem_ready.1 hj
      have := List.all_eq_true.1 hall j (List.mem_range.2 (Array.getElem?_eq_some_iff.1 ho).1)
      rw [IL.sub j this] at hun; cases hun
    cases n with
    | zero =>
      unfold evLate at H
      cases hall : (List.range ops.size).all (fun i => listed.getD i true)
      · rw [hall] at H; exact H.elim
      · rw [hall] at H; exact fin hall H
    | succ n =>
      -- a new variable comes up
      have freshC : ∀ {nC' : Nat}, nC = nC' + 1 → ∀ j, j ∈ Region.ready .any ops listedC → isLA P ops j = true → wpOp P ops Q j (fun a' w' => (∀ p ∈ kept ops j spr, p.2 w') ∧ wpL P ops Q nC' (listedC.setIfInBounds j true) (kept ops j spr) a' w') a w := by
        intro nC' hnC j hj hla
        obtain ⟨hun, o, ho, _⟩ := mem_ready.1 hj
        have hjs : j < ops.size := (Array.getElem?_eq_some_iff.1 ho).1
        have ha : allocF P o = true := by unfold isLA at hla; rw [ho] at hla; exact hla
        obtain ⟨_, _, e, d, cs, hop, hd, hz⟩ := allocF_alloc ha
        have hunl := IL.unC hun
        refine alloc_conc hcall ho ha hop hd hz I hT (IL.fit j o d ho ha hd) (IL.any j o d ho ha hd hunl) fun E3 v w2 b S3 hH hb hold hT3 => ?_
        have hM' := hM.step ho S3 (by rw [keepP_alloc ha]; exact hM.keeps)
        rw [keepP_alloc ha] at hM'
        refine ⟨hM'.hold S3.inv, ?_⟩
        rw [kept_alloc ho ha] at hM' ⊢
        have hset : ∀ {i : Nat}, i ≠ j → (listedC.setIfInBounds j true).getD i true = listedC.getD i true := fun hne => getD_set_ne true (Ne.symm hne)
        have hcount := unl_set hun ops.size
        rw [if_pos hjs] at hcount
        refine ih (n + 1) nC' (bl := fun i => if i = j then b else bl i) (by omega) H S3.inv hT3 hM' ⟨IL.ls, by rw [Array.size_setIfInBounds]; exact IL.lc, fun i hi => ?_, fun i hi hi' => ?_, fun i oi ei di hoi hai hopi hdi hci hli => ?_, fun i i' h1 h2 h3 h4 heq => ?_, IL.any, fun i oi di hoi hai hdi => by rw [put_size]; exact IL.fit i oi di hoi hai hdi⟩ (by omega) (hn.step S3)
        · by_cases hij : i = j
          · subst hij; exact set_self _ _
          · rw [hset hij]; exact IL.sub i hi
        · by_cases hij : i = j
          · subst hij; exact hla
          · rw [hset hij] at hi; exact IL.ext i hi hi'
        · by_cases hij : i = j
          · subst hij
            obtain rfl : oi = o := Option.some.inj (hoi.symm.trans ho)
            rw [hop] at hopi; cases hopi
            rw [hd] at hdi; cases hdi
            exact ⟨cs, hz, by rw [if_pos rfl]; exact hH⟩
          · rw [hset hij] at hci
            obtain ⟨cs', hz', hH'⟩ := IL.held i oi ei di hoi hai hopi hdi hci hli
            rw [if_neg hij, put_other (hdst i j oi o di hoi hai hdi ho (Ne.symm hij))]
            exact ⟨cs', hz', hold _ _ _ hH'⟩
        · have far : ∀ i, i ≠ j → listedC.getD i true = true → listed.getD i true = false → bl i ≠ b := fun i hij hci hli he => by
            have hla' := IL.ext i hci hli
            unfold isLA at hla'
            split at hla'
            · rename_i oi hoi
              obtain ⟨_, _, ei, di, csi, hopi, hdi, _⟩ := allocF_alloc hla'
              obtain ⟨_, _, hH'⟩ := IL.held i oi ei di hoi hla' hopi hdi hci hli
              have := hH'.lt
              omega
            · cases hla'
          by_cases e1 : i = j <;> by_cases e2 : i' = j
          · rw [e1, e2]
          · rw [if_pos e1, if_neg e2] at heq
            rw [hset e2] at h3
            exact absurd heq.symm (far i' e2 h3 h4)
          · rw [if_neg e1, if_pos e2] at heq
            rw [hset e1] at h1
            exact absurd heq (far i e1 h1 h2)
          · rw [if_neg e1, if_neg e2] at heq
            rw [hset e1] at h1
            rw [hset e2] at h3
            exact IL.inj i i' h1 h2 h3 h4 heq
      unfold evLate at H
      cases hp : pickL P ops listed with
      | no => rw [hp] at H; exact H.elim
      | done =>
        rw [hp] at H
        simp only at H
        cases hall : (List.range ops.size).all (fun i => listed.getD i true)
        · rw [hall] at H; exact H.elim
        · rw [hall] at H; exact fin hall H
      | early i =>
        rw [hp] at H
        simp only at H
        obtain ⟨hir, hfr, o, ho, he⟩ := pick_early hp
        rw [ho] at H
        simp only at H
        obtain ⟨hun, o', ho', hall⟩ := mem_ready.1 hir
        obtain rfl : o' = o := Option.some.inj (ho'.symm.trans ho)
        have his : i < ops.size := (Array.getElem?_eq_some_iff.1 ho).1
        have hna := early_not he
        have hunC : listedC.getD i true = false := by
          cases hl : listedC.getD i true
          · rfl
          · have := IL.ext i hl hun
            unfold isLA at this
            rw [ho] at this
            simp only [hna] at this
            cases this
        have hirC : i ∈ Region.ready .any ops listedC := mem_ready.2 ⟨hunC, o', ho, fun e he hb => IL.subF (hall e he hb)⟩
        obtain ⟨nC', rfl⟩ : ∃ q, nC = q + 1 := ⟨nC - 1, by have := unl_pos hunC his; omega⟩
        rw [RT.holds_bind] at H
        obtain ⟨F', v, ⟨k1, kst⟩, k2, k3⟩ := evStepEarly_ok he (evStep_still (hdf i o' ho) H) I hT
        have hM' := met_promise (i := i) (o := o') hT hM
        have hself : SeesO E F o' w w := seesO_self I o'
        have hcount := unl_set hunC ops.size
        rw [if_pos his] at hcount
        have hset : ∀ {L : Array Bool} {q : Nat}, q ≠ i → (L.setIfInBounds i true).getD q true = L.getD q true := fun hne => getD_set_ne true (Ne.symm hne)
        have hno : ∀ q oq dq, ops[q]? = some oq → allocF P oq = true → oq.dst = some dq → o'.dst ≠ some dq := fun q oq dq h1 h2 h3 => hdst q i oq o' dq h1 h2 h3 ho fun e => by
          subst e
          obtain rfl : oq = o' := Option.some.inj (h1.symm.trans ho)
          rw [hna] at h2; cases h2
        refine wpL_first ho (Region.noSelect_spec hns) (hQ _ _) nC' listedC spr a w (fun j oj hoj hne hunj hd => Region.free_spec ho hfr j oj hoj hne (IL.unC hunj) hd) hirC k3 hself (hM.hold I)
          (ih n nC' (bl := bl) (by omega) k1 I k2 hM' ⟨by rw [Array.size_setIfInBounds]; exact IL.ls, by rw [Array.size_setIfInBounds]; exact IL.lc, fun q hq => ?_, fun q hq hq' => ?_, fun q oq eq dq hoq haq hopq hdq hcq hlq => ?_, fun q q' h1 h2 h3 h4 heq => ?_, fun q oq dq hoq haq hdq hlq => ?_, fun q oq dq hoq haq hdq => by rw [put_size]; exact IL.fit q oq dq hoq haq hdq⟩ (by omega) hn)
        · by_cases e : q = i
          · subst e; exact set_self _ _
          · rw [hset e] at hq ⊢; exact IL.sub q hq
        · have e : q ≠ i := fun e => by subst e; rw [set_self] at hq'; cases hq'
          rw [hset e] at hq hq'; exact IL.ext q hq hq'
        · have e : q ≠ i := fun e => by subst e; rw [set_self] at hlq; cases hlq
          rw [hset e] at hcq hlq
          rw [put_other (hno q oq dq hoq haq hdq)]
          exact IL.held q oq eq dq hoq haq hopq hdq hcq hlq
        · have e : q ≠ i := fun e => by subst e; rw [set_self] at h2; cases h2
          have e' : q' ≠ i := fun e => by subst e; rw [set_self] at h4; cases h4
          rw [hset e] at h1 h2
          rw [hset e'] at h3 h4
          exact IL.inj q q' h1 h2 h3 h4 heq
        · have e : q ≠ i := fun e => by subst e; rw [set_self] at hlq; cases hlq
          rw [hset e] at hlq
          exact kst dq (hno q oq dq hoq haq hdq) (IL.any q oq dq hoq haq hdq hlq)
      | fresh i =>
        rw [hp] at H
        simp only at H
        obtain ⟨his, hun, hla, hcand⟩ := pick_fresh hp
        obtain ⟨o, ho⟩ : ∃ o, ops[i]? = some o := ⟨_, Array.getElem?_eq_getElem his⟩
        have ha : allocF P o = true := by unfold isLA at hla; rw [ho] at hla; exact hla
        obtain ⟨_, hnob, e, d, cs, hop, hd, hz⟩ := allocF_alloc ha
        have hset : ∀ {q : Nat}, q ≠ i → (listed.setIfInBounds i true).getD q true = listed.getD q true := fun hne => getD_set_ne true (Ne.symm hne)
        cases hc : listedC.getD i true
        · -- it did not come up yet
          have hirC : i ∈ Region.ready .any ops listedC := mem_ready.2 ⟨hc, o, ho, fun e he hb => by rw [hnob e he] at hb; cases hb⟩
          obtain ⟨nC', rfl⟩ : ∃ q, nC = q + 1 := ⟨nC - 1, by have := unl_pos hc his; omega⟩
          refine ⟨fun hr => (by rw [hr] at hirC; cases hirC), fun j hj => ?_⟩
          rcases IL.ready hj with h1 | h1
          · exact freshC rfl j hj h1
          · obtain ⟨oj, hoj, hw⟩ := hcand j h1
            obtain ⟨_, oj', hoj', hall⟩ := mem_ready.1 hj
            obtain rfl : oj' = oj := Option.some.inj (hoj'.symm.trans hoj)
            obtain ⟨e, he, hb, heq⟩ := waits_on hw
            have := hall e he hb
            rw [heq] at this
            rw [getD_of_true this true] at hc; cases hc
        · -- it is there: it is taken in
          obtain ⟨cs', hz', hH⟩ := IL.held i o e d ho ha hop hd hc hun
          have : cs' = cs := Option.some.inj (hz'.symm.trans hz)
          subst this
          unfold oneL at H
          rw [ho] at H
          simp only at H
          rw [alloc_eval ha hop hd hz (by rw [← hT.sz]; exact IL.fit i o d ho ha hd)] at H
          have H : (bif keeps (newA cs' h).2 (keepP o pr) then evLate P call ops n (listed.setIfInBounds i true) (keepP o pr) { F with tm := (d, .ptr h.nx 0) :: F.tm } (newA cs' h).2 else .bad 98 : RT (Tm × Hp)).holds K := H
          cases hkp : keeps (newA cs' h).2 (keepP o pr)
          · rw [hkp] at H; exact H.elim
          rw [hkp] at H
          obtain ⟨E1, S1, r1, hk1⟩ := I.adopt hH
          have hM' := hM.step ho S1 hkp
          rw [kept_alloc ho ha] at hM'
          have hT1 : RelT E1 { F with tm := (d, .ptr h.nx 0) :: F.tm } a := by
            refine ⟨hT.sz, fun t => ?_, hT.df.mono S1.ext⟩
            simp only [look_cons]
            cases hb : Nat.beq d t
            · exact Rel.mono S1.ext _ _ (hT.tm t)
            · obtain rfl := Nat.eq_of_beq_eq_true hb
              exact r1
          refine ih n nC (bl := bl) (by omega) H S1.inv hT1 hM' ⟨by rw [Array.size_setIfInBounds]; exact IL.ls, IL.lc, fun q hq => ?_, fun q hq hq' => ?_, fun q oq eq dq hoq haq hopq hdq hcq hlq => ?_, fun q q' h1 h2 h3 h4 heq => ?_, fun q oq dq hoq haq hdq hlq => ?_, IL.fit⟩ hu (hn.step S1)
          · by_cases e : q = i
            · subst e; exact hc
            · rw [hset e] at hq; exact IL.sub q hq
          · have e : q ≠ i := fun e => by subst e; rw [set_self] at hq'; cases hq'
            rw [hset e] at hq'; exact IL.ext q hq hq'
          · have e : q ≠ i := fun e => by subst e; rw [set_self] at hlq; cases hlq
            rw [hset e] at hlq
            obtain ⟨cs2, hz2, hH2⟩ := IL.held q oq eq dq hoq haq hopq hdq hcq hlq
            exact ⟨cs2, hz2, hk1 _ _ _ (fun heq => e (IL.inj q i hcq hlq hc hun heq)) hH2⟩
          · have e : q ≠ i := fun e => by subst e; rw [set_self] at h2; cases h2
            have e' : q' ≠ i := fun e => by subst e; rw [set_self] at h4; cases h4
            rw [hset e] at h2
            rw [hset e'] at h4
            exact IL.inj q q' h1 h2 h3 h4 heq
          · have e : q ≠ i := fun e => by subst e; rw [set_self] at hlq; cases hlq
            rw [hset e] at hlq
            show look dq ((d, AV.ptr h.nx 0) :: F.tm) = .any
            rw [look_cons]
            cases hb : Nat.beq d dq
            · exact IL.any q oq dq hoq haq hdq hlq
            · obtain rfl := Nat.eq_of_beq_eq_true hb
              exact absurd hd (hdst q i oq o d hoq haq hdq ho (Ne.symm e))
      | other k l =>
        rw [hp] at H
        simp only at H
        obtain ⟨hcl, hnw⟩ := pick_other hp
        have H := allR_holds H
        -- one of them is there
        have hkC : k ∈ candL P ops listed := by rw [hcl]; exact List.mem_cons_self
        have rdy : ∀ j ∈ k :: l, listedC.getD j true = false ∧ j < ops.size ∧ j ∈ Region.ready .any ops listedC := fun j hj => by
          obtain ⟨o, ho, hnv⟩ := hnw j hj
          have hjs : j < ops.size := (Array.getElem?_eq_some_iff.1 ho).1
          have hb := (List.mem_filter.1 (by rw [hcl]; exact hj : j ∈ candL P ops listed)).2
          unfold candB at hb
          rw [ho] at hb
          simp only [Bool.and_eq_true, Bool.not_eq_true'] at hb
          obtain ⟨⟨hun, hna⟩, hdep⟩ := hb
          have hunC : listedC.getD j true = false := by
            cases hl : listedC.getD j true
            · rfl
            · have := IL.ext j hl hun
              unfold isLA at this
              rw [ho] at this
              simp only [hna] at this
              cases this
          refine ⟨hunC, hjs, mem_ready.2 ⟨hunC, o, ho, fun e he hb => ?_⟩⟩
          rw [Array.all_eq_true'] at hdep
          have h1 := hdep e he
          rw [hb] at h1
          simp only [Bool.not_true, Bool.false_or, Bool.or_eq_true] at h1
          rcases h1 with h1 | h1
          · exact IL.subF h1
          · have hes : e.on < ops.size := by
              unfold isLA at h1
              split at h1
              · rename_i oe hoe; exact (Array.getElem?_eq_some_iff.1 hoe).1
              · cases h1
            have hw : waits e.on o = true := Array.any_eq_true'.2 ⟨e, he, by rw [hb]; simp⟩
            exact IL.subF (listed_lt IL.ls hes (nextV_none hnv hes hw h1) false)
        obtain ⟨hunk, hks, hkr⟩ := rdy k List.mem_cons_self
        obtain ⟨nC', rfl⟩ : ∃ q, nC = q + 1 := ⟨nC - 1, by have := unl_pos hunk hks; omega⟩
        refine ⟨fun hr => (by rw [hr] at hkr; cases hkr), fun j hj => ?_⟩
        rcases IL.ready hj with h1 | h1
        · exact freshC rfl j hj h1
        · rw [hcl] at h1
          obtain ⟨hunj, hjs, _⟩ := rdy j h1
          have Hj := H j h1
          obtain ⟨o, ho, _⟩ := hnw j h1
          unfold oneL at Hj
          rw [ho] at Hj
          simp only at Hj
          rw [RT.holds_bind] at Hj
          have hna : allocF P o = false := by
            have hb := (List.mem_filter.1 (by rw [hcl]; exact h1 : j ∈ candL P ops listed)).2
            unfold candB at hb
            rw [ho] at hb
            simp only [Bool.and_eq_true, Bool.not_eq_true'] at hb
            exact hb.1.2
          have hcount := unl_set hunj ops.size
          rw [if_pos hjs] at hcount
          have hset : ∀ {L : Array Bool} {q : Nat}, q ≠ j → (L.setIfInBounds j true).getD q true = L.getD q true := fun hne => getD_set_ne true (Ne.symm hne)
          have hno : ∀ q oq dq, ops[q]? = some oq → allocF P oq = true → oq.dst = some dq → o.dst ≠ some dq := fun q oq dq h1 h2 h3 => hdst q j oq o dq h1 h2 h3 ho fun e => by
            subst e
            obtain rfl : oq = o := Option.some.inj (h1.symm.trans ho)
            rw [hna] at h2; cases h2
          unfold wpOp
          rw [ho]
          refine evStepQ_ok hcall (hdf j o ho) (evStep_still (hdf j o ho) Hj) I.top hT fun F' h' E' v w' hk hs hT' => ?_
          obtain ⟨hk, kst⟩ := hk
          have S := hs.under I
          cases hkp : keeps h' (keepP o pr)
          · rw [hkp] at hk; exact hk.elim
          rw [hkp] at hk
          have hM' := hM.step ho S hkp
          refine ⟨hM'.hold S.inv, ih n nC' (bl := bl) (by omega) hk S.inv hT' hM' ⟨by rw [Array.size_setIfInBounds]; exact IL.ls, by rw [Array.size_setIfInBounds]; exact IL.lc, fun q hq => ?_, fun q hq hq' => ?_, fun q oq eq dq hoq haq hopq hdq hcq hlq => ?_, fun q q' h1 h2 h3 h4 heq => ?_, fun q oq dq hoq haq hdq hlq => ?_, fun q oq dq hoq haq hdq => by rw [put_size]; exact IL.fit q oq dq hoq haq hdq⟩ (by omega) (hn.step S)⟩
          · by_cases e : q = j
            · subst e; exact set_self _ _
            · rw [hset e] at hq ⊢; exact IL.sub q hq
          · have e : q ≠ j := fun e => by subst e; rw [set_self] at hq'; cases hq'
            rw [hset e] at hq hq'; exact IL.ext q hq hq'
          · have e : q ≠ j := fun e => by subst e; rw [set_self] at hlq; cases hlq
            rw [hset e] at hcq hlq
            rw [put_other (hno q oq dq hoq haq hdq)]
            obtain ⟨cs2, hz2, hH2⟩ := IL.held q oq eq dq hoq haq hopq hdq hcq hlq
            exact ⟨cs2, hz2, hH2.stepN hs⟩
          · have e : q ≠ j := fun e => by subst e; rw [set_self] at h2; cases h2
            have e' : q' ≠ j := fun e => by subst e; rw [set_self] at h4; cases h4
            rw [hset e] at h1 h2
            rw [hset e'] at h3 h4
            exact IL.inj q q' h1 h2 h3 h4 heq
          · have e : q ≠ j := fun e => by subst e; rw [set_self] at hlq; cases hlq
            rw [hset e] at hlq
            exact kst dq (hno q oq dq hoq haq hdq) (IL.any q oq dq hoq haq hdq hlq)
theorem forgetL_look {d : Nat} {F : Tm} : ∀ {l : List Oper}, (((∃ o ∈ l, allocF P o = true ∧ o.dst = some d) → look d (forgetL P l F).tm = .any)) ∧ (forgetL P l F).nt = F.nt ∧ (forgetL P l F).df = F.df ∧ ∀ t, look t (forgetL P l F).tm = .any ∨ look t (forgetL P l F).tm = look t F.tm
  | [] => ⟨(fun ⟨_, h, _⟩ => nomatch h), rfl, rfl, fun _ => .inr rfl⟩
  | o :: l => by
    obtain ⟨h1, h2, h3, h4⟩ := forgetL_look (d := d) (F := F) (l := l)
    have e : forgetL P (o :: l) F = (bif allocF P o then (match o.dst with | some d => { forgetL P l F with tm := (d, .any) :: (forgetL P l F).tm } | none => forgetL P l F) else forgetL P l F) := rfl
    cases ha : allocF P o
    · rw [ha] at e
      simp only [cond_false] at e
      rw [e]
      refine ⟨fun ⟨q, hq, hq2, hq3⟩ => ?_, h2, h3, h4⟩
      rcases List.mem_cons.1 hq with rfl | hq
      · rw [ha] at hq2; cases hq2
      · exact h1 ⟨q, hq, hq2, hq3⟩
    · rw [ha] at e
      obtain ⟨_, _, _, d0, _, _, hd0, _⟩ := allocF_alloc ha
      simp only [cond_true, hd0] at e
      rw [e]
      refine ⟨fun ⟨q, hq, hq2, hq3⟩ => ?_, h2, h3, fun t => ?_⟩
      · simp only [look_cons]
        cases hb : Nat.beq d0 d
        · rcases List.mem_cons.1 hq with rfl | hq
          · rw [hd0] at hq3; cases hq3; simp at hb
          · exact h1 ⟨q, hq, hq2, hq3⟩
        · rfl
      · simp only [look_cons]
        cases hb : Nat.beq d0 t
        · exact h4 t
        · exact .inl rfl
theorem evLateR_ok (hcall : CallOk P call) (hr : lateR P ops = true) (hQ : ∀ d v c a w, Q (.panic c) (Act.put a d v) w → Q (.panic c) a w) {K : Tm × Hp → Prop} {F : Tm} {h : Hp} {E : Env} {w : World} {a : Act}
    (H : (evLateR P call ops F h).holds K) (I : Inv P w0 G E h w) (hT : RelT E F a) (hn : Cont P w0 G E h w K (Q .normal)) : wpL P ops Q ops.size (Array.replicate ops.size false) [] a w := by
  unfold lateR at hr
  cases hu : unord P ops
  · rw [hu] at hr; cases hr
  rw [hu] at hr
  simp only [cond_true, Bool.and_eq_true] at hr
  obtain ⟨⟨⟨hns, hnd⟩, hds⟩, _⟩ := hr
  unfold evLateR at H
  cases hf : ops.toList.all (fitO P F.nt)
  · rw [hf] at H; exact H.elim
  rw [hf] at H
  simp only [cond_true] at H
  have mem : ∀ (i : Nat) (o : Oper), ops[i]? = some o → o ∈ ops.toList := fun i o ho => Array.mem_toList_iff.2 (Array.mem_of_getElem? ho)
  have hrep : ∀ i, i < ops.size → (Array.replicate ops.size false).getD i true = false := fun i hi => by
    rw [Array.getD_eq_getD_getElem?, Array.getElem?_replicate, if_pos hi]; rfl
  have hout : ∀ i d, (Array.replicate ops.size false).getD i d = true → ops.size ≤ i := fun i d hi => by
    rcases Nat.lt_or_ge i ops.size with h | h
    · rw [Array.getD_eq_getD_getElem?, Array.getElem?_replicate, if_pos h] at hi; cases hi
    · exact h
  have hlook := fun d => (forgetL_look (P := P) (d := d) (F := F) (l := ops.toList))
  have hT0 : RelT E (forgetL P ops.toList F) a := by
    refine ⟨hT.sz.trans (hlook 0).2.1.symm, fun t => ?_, by rw [(hlook 0).2.2.1]; exact hT.df⟩
    rcases (hlook 0).2.2.2 t with h | h
    · rw [h]; trivial
    · rw [h]; exact hT.tm t
  refine late_ok hcall hns (fun i o ho F => ?_) (fun i j oi oj d hoi hai hdi hoj hne hdj => ?_) hQ (ops.size + ops.size) ops.size ops.size (bl := fun _ => 0) (by omega) H I hT0 .nil
    ⟨by simp, by simp, fun i hi => hi, fun i h1 h2 => (by rw [h1] at h2; cases h2), fun i o e d ho _ _ _ h1 h2 => (by rw [h1] at h2; cases h2), fun i i' h1 h2 => (by rw [h1] at h2; cases h2), fun i o d ho ha hd _ => (hlook d).1 ⟨o, mem i o ho, ha, hd⟩, fun i o d ho ha hd => ?_⟩ (unl_le _ _) hn
  · have := List.all_eq_true.1 hnd o (mem i o ho)
    unfold notDf at this
    unfold deferA
    split
    · rename_i hc; rw [hc] at this; cases this
    · rfl
  · unfold dstL at hds
    have his : i < ops.size := (Array.getElem?_eq_some_iff.1 hoi).1
    have hjs : j < ops.size := (Array.getElem?_eq_some_iff.1 hoj).1
    have h1 := List.all_eq_true.1 hds i (List.mem_range.2 his)
    have hla : isLA P ops i = true := by unfold isLA; rw [hoi]; exact hai
    rw [hla] at h1
    simp only [Bool.not_true, Bool.false_or] at h1
    have h2 := List.all_eq_true.1 h1 j (List.mem_range.2 hjs)
    have hb : Nat.beq i j = false := by
      cases hb : Nat.beq i j
      · rfl
      · exact absurd (Nat.eq_of_beq_eq_true hb).symm hne
    rw [hb, hoi, hoj] at h2
    simp only [Bool.false_or, Option.bind_some, hdi] at h2
    unfold sameDst at h2
    rw [hdj] at h2
    simp at h2
  · have := List.all_eq_true.1 hf o (mem i o ho)
    unfold fitO at this
    rw [ha, hd] at this
    simp only [Bool.not_true, Bool.false_or] at this
    rw [hT.sz]; exact blt_lt this
end
end
end Go.Proofs.YtomblhnchdokmaaGreatDoor
