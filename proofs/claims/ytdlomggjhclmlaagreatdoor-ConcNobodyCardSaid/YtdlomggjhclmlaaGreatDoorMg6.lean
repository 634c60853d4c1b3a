/- Mg6: texts of this claim, one behind the other: EvA EvB EvC. No condition. -/
import Derived.Test.YtdlomggjhclmlaaGreatDoorMg5
import Derived.Scope
namespace Go.Proofs.YtdlomggjhclmlaaGreatDoor
set_option linter.unusedSimpArgs false
set_option linter.unusedVariables false
open Go.RowKit
set_option maxRecDepth 10000
noncomputable section

def Ex.to : Ex → Exit
  | .normal => .normal
  | .exit id => .exit id
  | .ret => .ret
def Post (P : Program) (w0 : World) (G : Nat → Prop) (E : Env) (h : Hp) (w : World) (K : Out → Prop) (Q : Exit → Act → World → Prop) : Prop :=
  ∀ ex F' h' E' a' w', K (ex, F', h') → Stepd P w0 G E h w E' h' w' → RelT E' F' a' → Q ex.to a' w'
theorem Post.step {P : Program} {w0 w w1 : World} {G : Nat → Prop} {E E1 : Env} {h h1 : Hp} {K : Out → Prop} {Q : Exit → Act → World → Prop} (hp : Post P w0 G E h w K Q) (hs : Stepd P w0 G E h w E1 h1 w1) : Post P w0 G E1 h1 w1 K Q :=
  fun ex F' h' E' a' w' hk hs' hT => hp ex F' h' E' a' w' hk (hs.trans hs') hT
/-- a block is told right -/
def BOk (P : Program) (c : Code) (sp : BSpec) : Prop := ∀ F h K, (sp F h).holds K → ∀ w0 G E w a Q, Inv P w0 G E h w → RelT E F a → Post P w0 G E h w K Q → c.wp P Q a w
def blocksOf (id : Nat) : Code → List Code
  | .seq a b => blocksOf id a ++ blocksOf id b
  | .cond _ a b => blocksOf id a ++ blocksOf id b
  | .block j b => (if j = id then [.block j b] else []) ++ blocksOf id b
  | .loop b => blocksOf id b
  | .scope b => blocksOf id b
  | _ => []
def LamOk (P : Program) (Λ : FuncId → Nat → Option BSpec) (f : FuncId) (c : Code) : Prop := ∀ id sp, Λ f id = some sp → ∀ c' ∈ blocksOf id c, BOk P c' sp
def LamAll (P : Program) (Λ : FuncId → Nat → Option BSpec) : Prop := ∀ f fn b, plainF P f = some (fn, b) → LamOk P Λ f b
/-- a function is told right -/
def SoundF (P : Program) (g : FuncId) (sp : Spec) : Prop := ∀ args h K, (sp args h).holds K → ∀ w0 G E w vals, Inv P w0 G E h w → RelL E args vals →
  Calls P g vals.toArray w fun e w' => ∃ r h' v E', K (r, h') ∧ e = .returned v ∧ Stepd P w0 G E h w E' h' w' ∧ Rel E' r v
def GamOk (P : Program) (Γ : FuncId → Option Spec) : Prop := ∀ g sp, Γ g = some sp → SoundF P g sp

section
variable {P : Program} {E : Env} {F : Tm} {h : Hp} {w w0 : World} {G : Nat → Prop} {a : Act} {Γ : FuncId → Option Spec} {Λ : FuncId → Nat → Option BSpec}

theorem Inv.drew (I : Inv P w0 G E h w) (n : Nat) : Stepd P w0 G E h w E h { w with drawn := n } :=
  ⟨Ext.refl E, ⟨⟨I.kpt.os, I.kpt.tape, I.kpt.output, I.kpt.size, I.kpt.block⟩, I.m, I.ng, I.gn, I.gnlt, I.live, I.nx, I.ob, I.own, I.inj, I.z, I.zob, I.vec, I.vinj, I.laid⟩, fun _ _ => ⟨Nat.le_refl _, fun _ => rfl⟩, fun _ _ _ hz => .inl hz⟩

theorem look_zip : ∀ (args : List AV) (s i : Nat), look i ((List.range' s args.length).zip args) = if s ≤ i ∧ i < s + args.length then (args[i - s]?).getD .any else .any
  | [], s, i => by simp [look_nil]
  | x :: args, s, i => by
    simp only [List.length_cons, List.range'_succ, List.zip_cons_cons, look_cons]
    rw [look_zip args (s + 1) i]
    cases hb : Nat.beq s i
    · have hne : s ≠ i := fun e => by rw [e] at hb; simp at hb
      simp only [cond_false]
      by_cases hc : s + 1 ≤ i ∧ i < s + 1 + args.length
      · rw [if_pos hc, if_pos ⟨by omega, by omega⟩, show i - s = (i - (s + 1)) + 1 by omega, List.getElem?_cons_succ]
      · rw [if_neg hc, if_neg (by omega)]
    · obtain rfl := Nat.eq_of_beq_eq_true hb
      simp
theorem enterA_ok (hlaid : Laid E) {fn : Func} {args : List AV} {vals : List Value} (hr : RelL E args vals) (hle : args.length ≤ fn.ntmps) : RelT E (enterA fn args) { tmps := vals.toArray ++ Array.replicate (fn.ntmps - vals.toArray.size) undef, defers := [] } := by
  have hl := hr.length
  refine ⟨by simp [enterA]; omega, fun i => ?_, hlaid, rfl⟩
  have hz := look_zip args 0 i
  rw [← List.range_eq_range'] at hz
  simp only [enterA]
  rw [hz]
  by_cases hi : i < args.length
  · rw [if_pos ⟨Nat.zero_le _, by omega⟩, Nat.sub_zero]
    obtain ⟨v, hv, hrv⟩ := hr.get (List.getElem?_eq_getElem hi)
    rw [List.getElem?_eq_getElem hi, Option.getD_some, Array.getD_eq_getD_getElem?, Array.getElem?_append_left (by simpa [← hl] using hi)]
    simpa [hv] using hrv
  · rw [if_neg (by omega)]; exact trivial
theorem run_loadAt_asAddr {t : TypeId} {v u : Value} (hl : (Instr.loadAt t v).run P w = .ok u w) : (do loadVar t (← asAddr v) : Sem Value).run P w = .ok u w := by
  cases v with
  | pointer ad =>
    cases ad with
    | some ad => simpa [Instr.loadAt, Instr.sureAddr, asAddr] using hl
    | none => simp [Instr.loadAt, Instr.sureAddr, stuck] at hl
  | _ => simp [Instr.loadAt, Instr.sureAddr, stuck] at hl
def rsOf (t : Array Value) : ResultVar → Sem Value
  | .tmp x => pure (t.getD x undef)
  | .cell x ty => do loadVar ty (← asAddr (t.getD x undef))
theorem resA_ok {K : List AV → Prop} : ∀ {rs : List ResultVar}, (resA P F h rs).holds K → Inv P w0 G E h w → RelT E F a → ∃ vs us, K vs ∧ RelL E vs us ∧
    (rs.mapM (m := Sem) (rsOf a.tmps)).run P w = .ok us w
  | [], H, _, _ => ⟨[], [], H, rfl, rfl⟩
  | .tmp t :: rs, H, I, hT => by
    simp only [resA] at H
    rw [RT.holds_bind] at H
    obtain ⟨vs, us, h1, h2, h3⟩ := resA_ok H I hT
    refine ⟨_, a.tmps.getD t undef :: us, h1, ⟨_, _, rfl, hT.tm t, h2⟩, ?_⟩
    simp only [List.mapM_cons, rsOf, Sem.run_bind, Sem.run_pure, Result.andThen_ok, h3]
  | .cell x t :: rs, H, I, hT => by
    simp only [resA] at H
    rw [RT.holds_bind] at H
    obtain ⟨av, u, g1, g2, g3⟩ := loadA_ok H I (hT.tm x)
    rw [RT.holds_bind] at g1
    obtain ⟨vs, us, h1, h2, h3⟩ := resA_ok g1 I hT
    refine ⟨_, u :: us, h1, ⟨_, _, rfl, g3, h2⟩, ?_⟩
    have := run_loadAt_asAddr (g2 w (I.sees _))
    simp only [Sem.run_bind] at this
    simp only [List.mapM_cons, rsOf, Sem.run_bind, this, Sem.run_pure, Result.andThen_ok, h3]
theorem resultA_ok {K : AV × Hp → Prop} {fn : Func} (H : (resultA P fn F h).holds K) (I : Inv P w0 G E h w) (hT : RelT E F a) : ∃ r v, K (r, h) ∧ Rel E r v ∧ (results fn a.tmps).run P w = .ok v w := by
  unfold resultA at H
  rw [RT.holds_bind] at H
  obtain ⟨vs, us, h1, h2, h3⟩ := resA_ok H I hT
  have hres : (results fn a.tmps).run P w = .ok (if h : us.toArray.size = 1 then us.toArray[0] else .tuple us.toArray) w := by
    show (do let vs ← fn.results.mapM (rsOf a.tmps); pure (if h : vs.size = 1 then vs[0] else .tuple vs) : Sem Value).run P w = _
    rw [Array.mapM_eq_mapM_toList]
    have : (List.toArray <$> List.mapM (m := Sem) (rsOf a.tmps) fn.results.toList).run P w = .ok us.toArray w := by
      show (List.mapM (m := Sem) (rsOf a.tmps) fn.results.toList >>= fun l => pure l.toArray : Sem _).run P w = _
      rw [Sem.run_bind, h3]
      rfl
    rw [Sem.run_bind, this]
    rfl
  split at h1
  · rename_i av
    obtain ⟨u, us', rfl, g1, g2⟩ := h2
    have g2' : us' = [] := g2
    subst g2'
    exact ⟨av, u, h1, g1, by rw [hres]; simp⟩
  · rename_i hne
    refine ⟨.tup vs, .tuple us.toArray, h1, ⟨_, rfl, by simpa using h2⟩, ?_⟩
    rw [hres]
    have hl := h2.length
    rw [dif_neg]
    intro h0
    have : vs.length = 1 := by rw [hl]; simpa using h0
    obtain ⟨x, rfl⟩ := List.length_eq_one_iff.1 this
    exact hne x rfl

theorem plainF_ok {f : FuncId} {fn : Func} {b : Code} (hp : plainF P f = some (fn, b)) : P.funcs[f]? = some fn ∧ fn.body = some b := by
  unfold plainF at hp
  split at hp
  · rename_i fn' hf
    split at hp
    · rename_i c hc
      cases hp; exact ⟨hf, hc⟩
    · cases hp
  · cases hp
/-- code, at a depth -/
def CodeOk (P : Program) (Γ : FuncId → Option Spec) (Λ : FuncId → Nat → Option BSpec) (n : Nat) : Prop := ∀ f c F h K, (evC P Γ Λ n f c F h).holds K → LamOk P Λ f c → ∀ w0 G E w a Q, Inv P w0 G E h w → RelT E F a → Post P w0 G E h w K Q → c.wp P Q a w
/-- what a piece of code does -/
def RecOk (P : Program) (b : Code) (T : Tm → Hp → RT Out) : Prop := ∀ F h K, (T F h).holds K → ∀ w0 G E w a Q, Inv P w0 G E h w → RelT E F a → Post P w0 G E h w K Q → b.wp P Q a w
theorem runDf_ok (hng : noGor P = true) {rec : FuncId → Code → Tm → Hp → RT Out} {fn : Func} {tmps : Array Value} {R : Ending → World → Prop} (hrec : ∀ g fn b, plainF P g = some (fn, b) → RecOk P b (rec g b)) : ∀ {df : List (FuncId × List AV)} {ds : List Deferred} {K : Hp → Prop} {E : Env} {h : Hp} {w : World},
    (runDf P rec df h).holds K → Inv P w0 G E h w → RelD E df ds → (∀ h' E' w', K h' → Stepd P w0 G E h w E' h' w' → ∃ v, (results fn tmps).run P w' = .ok v w' ∧ R (.returned v) w') → Leaves P fn tmps R ds .returning w
  | [], ds, K, E, h, w, H, I, hD, hk => by
    have : ds = [] := hD
    subst this
    exact hk h E w H (Stepd.refl I)
  | (g, args) :: df, ds, K, E, h, w, H, I, ⟨cap, av, ds', h1, h2, h3⟩, hk => by
    subst h1
    unfold runDf at H
    split at H
    · exact H.elim
    rename_i gn b hp
    cases hle : Nat.ble args.length gn.ntmps
    · rw [hle] at H; exact H.elim
    rw [hle] at H
    simp only [cond_true] at H
    rw [RT.holds_bind] at H
    obtain ⟨hf, hb⟩ := plainF_ok hp
    refine leaves_cons (f := g) (args := (av.toList ++ cap.toList).toArray) (by simp) ?_ ?_
    · have harr : av ++ cap = (av.toList ++ cap.toList).toArray := by apply Array.ext'; simp
      simp only [invoke]
      rw [callFunc_plain ⟨by rw [hp]; rfl, hng⟩, harr]
    · refine (callsD_of_wp (R := fun e w' => ∃ v, e = .returned v ∧ Leaves P fn tmps R ds' .returning w') hf hb (hrec g gn b hp _ _ _ H w0 G E w _ _ I (enterA_ok I.laid h2 (Nat.le_of_ble_eq_true hle)) ?_)).mono ?_
      · intro ex F' h' E' a' w' hkx hs hT
        have fin : F'.df = [] → ((resultA P gn F' h').bind fun y => runDf P rec df y.2).holds K → a'.defers = [] ∧ ∃ v, (results gn a'.tmps).run P w' = .ok v w' ∧ ∃ v', Ending.returned v = .returned v' ∧ Leaves P fn tmps R ds' .returning w' := fun hdf hkx => by
          rw [RT.holds_bind] at hkx
          obtain ⟨r, v, k1, k2, k3⟩ := resultA_ok hkx hs.inv hT
          have hd0 := hT.df.2
          rw [hdf] at hd0
          exact ⟨hd0, v, k3, v, rfl, runDf_ok hng hrec k1 hs.inv (h3.mono hs.ext) fun h2 E2 w2 hk2 hs2 => hk h2 E2 w2 hk2 (hs.trans hs2)⟩
        cases ex with
        | exit id => exact hkx.elim
        | normal =>
          simp only at hkx
          split at hkx
          · rename_i e; cases e
          · rename_i _ hdf; exact fin (by first | exact hdf | assumption) hkx
          · exact hkx.elim
        | ret =>
          simp only at hkx
          split at hkx
          · rename_i e; cases e
          · rename_i _ hdf; exact fin (by first | exact hdf | assumption) hkx
          · exact hkx.elim
      · rintro e u' w' ⟨rfl, v, rfl, hl⟩
        exact hl
theorem bodyE_ok (hng : noGor P = true) {rec : FuncId → Code → Tm → Hp → RT Out} (hrec : ∀ g fn b, plainF P g = some (fn, b) → RecOk P b (rec g b)) {f : FuncId} {fn : Func} {b : Code} (hp : plainF P f = some (fn, b)) : SoundF P f (bodyE P rec f fn b) := by
  intro args h K H w0 G E w vals I hr
  unfold bodyE at H
  cases hle : Nat.ble args.length fn.ntmps
  · rw [hle] at H; exact H.elim
  rw [hle] at H
  simp only [cond_true] at H
  rw [RT.holds_bind] at H
  obtain ⟨hf, hb⟩ := plainF_ok hp
  refine calls_of_wp_defers hf hb (hrec f fn b hp _ _ _ H w0 G E w _ _ I (enterA_ok I.laid hr (Nat.le_of_ble_eq_true hle)) ?_)
  intro ex F' h' E' a' w' hk hs hT
  have fin : ((runDf P rec F'.df h').bind fun h => resultA P fn F' h).holds K → Leaves P fn a'.tmps (fun e w' => ∃ r h' v E', K (r, h') ∧ e = .returned v ∧ Stepd P w0 G E h w E' h' w' ∧ Rel E' r v) a'.defers .returning w' := fun hk => by
    rw [RT.holds_bind] at hk
    refine runDf_ok hng hrec hk hs.inv hT.df.2 fun h2 E2 w2 hk2 hs2 => ?_
    obtain ⟨r, v, k1, k2, k3⟩ := resultA_ok hk2 hs2.inv (hT.mono hs2.ext)
    exact ⟨v, k3, r, h2, v, E2, k1, rfl, hs.trans hs2, k2⟩
  cases ex with
  | normal => exact fin hk
  | ret => exact fin hk
  | exit id => exact hk.elim
theorem callE_ok (hng : noGor P = true) {n : Nat} (hc : CodeOk P Γ Λ n) (hΓ : GamOk P Γ) (hΛ : LamAll P Λ) : CallOk P (callE P Γ (evC P Γ Λ n)) := by
  intro g args h K H
  unfold callE at H
  split at H
  · exact H.elim
  · rename_i fn b hp
    refine ⟨⟨by rw [hp]; rfl, hng⟩, fun w0 G E w vals I hr => ?_⟩
    split at H
    · rename_i sp hsp
      exact hΓ g sp hsp args h K H w0 G E w vals I hr
    · exact bodyE_ok hng (fun g fn b hp F h K H => hc g b F h K H (hΛ g fn b hp)) hp args h K H w0 G E w vals I hr
theorem codeOk (hm : Fit P) (hΓ : GamOk P Γ) (hΛ : LamAll P Λ) : ∀ n, CodeOk P Γ Λ n ∧
    ∀ f b F h K, (evC P Γ Λ n f (.loop b) F h).holds K → LamOk P Λ f b → ∀ w0 G E w a Q, Inv P w0 G E h w → RelT E F a → Post P w0 G E h w K Q → Code.rounds P b Q n a w
  | 0 => ⟨fun f c F h K H => by unfold evC at H; exact H.elim, fun f b F h K H => by unfold evC at H; exact H.elim⟩
  | n + 1 => by
    obtain ⟨ihc, ihl⟩ := codeOk hm hΓ hΛ n
    have hcall := callE_ok hm.2 ihc hΓ hΛ
    have loop : ∀ f b F h K, (evC P Γ Λ (n + 1) f (.loop b) F h).holds K → LamOk P Λ f b → ∀ w0 G E w a Q, Inv P w0 G E h w → RelT E F a → Post P w0 G E h w K Q → Code.rounds P b Q (n + 1) a w := by
      intro f b F h K H hL w0 G E w a Q I hT hp
      unfold evC at H
      simp only at H
      rw [RT.holds_bind] at H
      rw [rounds_succ]
      refine ihc f b F h _ H hL w0 G E w a _ I hT ?_
      intro ex F' h' E' a' w' hk hs hT'
      cases ex with
      | normal => exact ihl f b F' h' K hk hL w0 G E' w' a' Q hs.inv hT' (hp.step hs)
      | exit id => exact hp _ _ _ _ _ _ hk hs hT'
      | ret => exact hp _ _ _ _ _ _ hk hs hT'
    refine ⟨fun f c F h K H hL w0 G E w a Q I hT hp => ?_, loop⟩
    cases c with
    | skip => unfold evC at H; exact wp_skip (hp _ _ _ _ _ _ H (Stepd.refl I) hT)
    | ret => unfold evC at H; exact wp_ret (hp _ _ _ _ _ _ H (Stepd.refl I) hT)
    | exit id => unfold evC at H; exact wp_exit (hp _ _ _ _ _ _ H (Stepd.refl I) hT)
    | region id ops draw =>
      cases draw with
      | false =>
        unfold evC at H
        simp only at H
        rw [RT.holds_bind] at H
        exact wp_region_list (evList_ok hcall _ H I hT fun F' h' E' a' w' hk hs hT' => hp _ _ _ _ _ _ hk hs hT')
      | true =>
        unfold evC at H
        simp only at H
        cases hqr : asRow P Λ f id ops
        case true =>
          rw [hqr] at H
          simp only [cond_true] at H
          rw [RT.holds_bind] at H
          have hq : quietR P ops = true := by
            unfold asRow at hqr
            split at hqr
            · cases hqr
            · exact hqr
          have hd := I.drew (w.drawn + 1)
          exact Go.wp_mono (Q := fun e a w => e = .normal ∧ Q .normal a w) (wp_region_any hm.1 (evReg_ok hcall hq H hd.inv hT fun F' h' E' a' w' hk hs hT' => ⟨rfl, hp _ _ _ _ _ _ hk (hd.trans hs) hT'⟩)) (fun e a w hq => by obtain ⟨rfl, hq⟩ := hq; exact hq)
        rw [hqr] at H
        simp only [cond_false] at H
        cases hla : asLate P Λ f id ops
        case true =>
          rw [hla] at H
          simp only [cond_true] at H
          rw [RT.holds_bind] at H
          have hd := I.drew (w.drawn + 1)
          exact Go.wp_mono (Q := fun e a w => e = .normal ∧ Q .normal a w) (wp_region_any hm.1 (wpL_any _ _ [] _ _ (evLateR_ok hcall (asLate_ok hla) (fun _ _ _ _ _ hq => by cases hq.1) H hd.inv hT fun F' h' E' a' w' hk hs hT' => ⟨rfl, hp _ _ _ _ _ _ hk (hd.trans hs) hT'⟩))) (fun e a w hq => by obtain ⟨rfl, hq⟩ := hq; exact hq)
        rw [hla] at H
        simp only [cond_false] at H
        cases hns : Region.noSelect ops
        · rw [hns] at H; exact H.elim
        rw [hns] at H
        simp only [cond_true] at H
        rw [RT.holds_bind] at H
        have hd := I.drew (w.drawn + 1)
        refine Go.wp_mono (Q := fun e a w => e = .normal ∧ Q .normal a w) (wp_region_any hm.1 (wpL_any _ _ [] _ _ (evDrawn_ok erOf_ok hcall hns (fun _ _ _ _ _ hq => by cases hq.1) _ H hd.inv hT .nil ?_))) (fun e a w hq => by obtain ⟨rfl, hq⟩ := hq; exact hq)
        exact fun F' h' E' a' w' hk hs hT' => ⟨rfl, hp _ _ _ _ _ _ hk (hd.trans hs) hT'⟩
    | seq x y =>
      unfold evC at H
      simp only at H
      rw [RT.holds_bind] at H
      refine wp_seq (ihc f x F h _ H (fun id sp hs c' hc' => hL id sp hs c' (List.mem_append_left _ hc')) w0 G E w a _ I hT ?_)
      intro ex F' h' E' a' w' hk hs hT'
      cases ex with
      | normal => exact ihc f y F' h' K hk (fun id sp hs c' hc' => hL id sp hs c' (List.mem_append_right _ hc')) w0 G E' w' a' Q hs.inv hT' (hp.step hs)
      | exit id => exact hp _ _ _ _ _ _ hk hs hT'
      | ret => exact hp _ _ _ _ _ _ hk hs hT'
    | cond c x y =>
      unfold evC at H
      simp only at H
      split at H
      · rename_i t
        split at H
        · rename_i kn b hl
          have hv := hT.tm t
          rw [hl] at hv
          have hev : a.eval (.tmp t) = .bool b := hv.1
          have hset := setA_ok hT hl
          rcases brk_holds H with ⟨rfl, H2⟩ | ⟨rfl, H2⟩
          · exact wp_cond_true hev (ihc f x _ h K H2 (fun id sp hs c' hc' => hL id sp hs c' (List.mem_append_left _ hc')) w0 G E w a Q I hset hp)
          · exact wp_cond_false hev (ihc f y _ h K H2 (fun id sp hs c' hc' => hL id sp hs c' (List.mem_append_right _ hc')) w0 G E w a Q I hset hp)
        · exact H.elim
      · exact wp_cond_true rfl (ihc f x F h K H (fun id sp hs c' hc' => hL id sp hs c' (List.mem_append_left _ hc')) w0 G E w a Q I hT hp)
      · exact wp_cond_false rfl (ihc f y F h K H (fun id sp hs c' hc' => hL id sp hs c' (List.mem_append_right _ hc')) w0 G E w a Q I hT hp)
      · exact H.elim
    | block id b =>
      unfold evC at H
      simp only at H
      split at H
      · rename_i sp hsp
        exact hL id sp hsp (.block id b) (by simp [blocksOf]) F h K H w0 G E w a Q I hT hp
      · rw [RT.holds_bind] at H
        refine wp_block (ihc f b F h _ H (fun i sp hs c' hc' => hL i sp hs c' (List.mem_append_right _ hc')) w0 G E w a _ I hT ?_)
        intro ex F' h' E' a' w' hk hs hT'
        cases ex with
        | normal => exact hp _ _ _ _ _ _ hk hs hT'
        | ret => exact hp _ _ _ _ _ _ hk hs hT'
        | exit j =>
          simp only at hk
          show Exit.inBlock id Q (.exit j) a' w'
          simp only [Exit.inBlock]
          cases hb : Nat.beq j id
          · rw [hb] at hk
            rw [if_neg (fun e => by rw [e] at hb; simp at hb)]
            exact hp _ _ _ _ _ _ hk hs hT'
          · rw [hb] at hk
            rw [if_pos (Nat.eq_of_beq_eq_true hb)]
            exact hp _ _ _ _ _ _ hk hs hT'
    | loop b => exact wp_loop_rounds (n + 1) (loop f b F h K H hL w0 G E w a Q I hT hp)
    | rangeFunc _ _ _ _ => unfold evC at H; exact H.elim
    | scope b =>
      unfold evC at H
      refine wp_scope_straight (ihc f b F h K H (fun i sp hs c' hc' => hL i sp hs c' hc') w0 G E w a _ I hT fun ex F' h' E' a' w' hk hs hT' => ?_)
      have := hp _ _ _ _ _ _ hk hs hT'
      cases ex <;> exact this
    | label _ => unfold evC at H; exact wp_label (hp _ _ _ _ _ _ H (Stepd.refl I) hT)
    | goto _ => unfold evC at H; exact H.elim
    | refuse _ => unfold evC at H; exact H.elim
/-- **a function is told right by its own code** -/
theorem evF_ok (hm : Fit P) (hΓ : GamOk P Γ) (hΛ : LamAll P Λ) (n : Nat) (f : FuncId) : SoundF P f (evF P Γ Λ n f) := by
  intro args h K H
  unfold evF at H
  split at H
  · exact H.elim
  · rename_i fn b hp
    exact bodyE_ok hm.2 (fun g fn b hp F h K H => (codeOk hm hΓ hΛ n).1 g b F h K H (hΛ g fn b hp)) hp args h K H
end
end
end Go.Proofs.YtdlomggjhclmlaaGreatDoor

namespace Go.Proofs.YtdlomggjhclmlaaGreatDoor
set_option linter.unusedSimpArgs false
set_option linter.unusedVariables false
open Go.RowKit
set_option maxRecDepth 10000
noncomputable section

def ix (o : Nat) : List Nat → Nat → Option Nat
  | [], _ => none
  | k :: r, i => bif Nat.beq k o then some i else ix o r (i + 1)
theorem ix_some : ∀ {l : List Nat} {o s i : Nat}, ix o l s = some i → s ≤ i ∧ l[i - s]? = some o
  | [], _, _, _, h => by cases h
  | k :: r, o, s, i, h => by
    simp only [ix] at h
    cases hb : Nat.beq k o
    · rw [hb] at h
      obtain ⟨h1, h2⟩ := ix_some (l := r) h
      refine ⟨by omega, ?_⟩
      rw [show i - s = (i - (s + 1)) + 1 by omega]
      simpa using h2
    · rw [hb] at h
      cases h
      obtain rfl := Nat.eq_of_beq_eq_true hb
      simp
mutual
/-- a value under the new names: objects os, slices ks (their new stamps: g0 + j) -/
def ren (os ks : List Nat) (g0 : Nat) (gn : List (Nat × Nat × TypeId)) : AV → AV
  | .ptr o off => match ix o os 0 with | some i => .ptr i off | none => .any
  | .mp o => match ix o os 0 with | some i => .mp i | none => .any
  | .sl kn es d (some (k, g)) => match ix k ks 0, lookG k gn with
    | some j, some (g', _) => bif Nat.beq g g' then .sl kn es d (some (j, g0 + j)) else .sl kn es d none
    | _, _ => .sl kn es d none
  | .fn f a c => .fn f (renL os ks g0 gn a) (renL os ks g0 gn c)
  | .agg cs => .agg (renL os ks g0 gn cs)
  | .tup vs => .tup (renL os ks g0 gn vs)
  | .sl kn es d none => .sl kn es d none
  | .any => .any
  | .sc kn v => .sc kn v
  | .ep kn es d j => .ep kn es d j
  | .rsl kn o n len => match ix o os 0 with | some i => .rsl kn i n len | none => .any
  | .rp kn o n i j => match ix o os 0 with | some q => .rp kn q n i j | none => .any
  | .rw es d => .rw es d
  | .vsl _ _ _ _ _ => .any
  | .al _ _ _ _ => .any
  | .ea _ => .any
def renL (os ks : List Nat) (g0 : Nat) (gn : List (Nat × Nat × TypeId)) : List AV → List AV
  | [] => []
  | x :: xs => ren os ks g0 gn x :: renL os ks g0 gn xs
end
def obR (os ks : List Nat) (g0 : Nat) (h : Hp) : List Nat → Nat → List (Nat × List AV)
  | [], _ => []
  | o :: r, i => match lookO o h.ob with
    | some cs => (i, renL os ks g0 h.gn cs) :: obR os ks g0 h r (i + 1)
    | none => obR os ks g0 h r (i + 1)
def gnR (g0 : Nat) (gn : List (Nat × Nat × TypeId)) : List Nat → Nat → List (Nat × Nat × TypeId)
  | [], _ => []
  | k :: r, j => match lookG k gn with
    | some (_, e) => (j, g0 + j, e) :: gnR g0 gn r (j + 1)
    | none => gnR g0 gn r (j + 1)
def Hp.ren (h : Hp) (os ks : List Nat) (g0 ep : Nat) : Hp := ⟨obR os ks g0 h os 0, os.length, gnR g0 h.gn ks 0, ks.length, g0 + ks.length, ep⟩
def Env.ren (E : Env) (os ks : List Nat) (g0 : Nat) : Env :=
  { β := fun i => E.β (os.getD i 0), live := fun i => ∃ o, os[i]? = some o ∧ E.live o, Z := E.Z, vc := fun j => E.vc (ks.getD j 0), gn := fun j => g0 + j, ve := fun j => E.ve (ks.getD j 0), m := ks.length, ng := g0 + ks.length, yl := E.yl }

section
variable {P : Program} {E : Env} {h : Hp} {w w0 : World} {G : Nat → Prop} {os ks : List Nat} {g0 : Nat}
mutual
theorem ren_rel (I : Inv P w0 G E h w) : ∀ (x : AV) (v : Value), Rel E x v → Rel (E.ren os ks g0) (ren os ks g0 h.gn x) v
  | .any, _, _ => trivial
  | .sc _ _, _, H => H
  | .ep _ _ _ _, _, H => H
  | .rw _ _, _, H => H
  | .vsl _ _ _ _ _, _, _ => trivial
  | .al _ _ _ _, _, _ => trivial
  | .ea _, _, _ => trivial
  | .rsl kn o n len, v, ⟨hl, ad, cap, g1, g2, g3, g4, g5⟩ => by
    simp only [ren]
    split
    · rename_i i hi
      obtain ⟨_, h1⟩ := ix_some hi
      simp only [Nat.sub_zero] at h1
      refine ⟨⟨o, h1, hl⟩, ad, cap, g1, g2, g3, g4, fun hn => ?_⟩
      simp only [Env.ren, List.getD_eq_getElem?_getD, h1, Option.getD_some]
      exact g5 hn
    · exact trivial
  | .rp kn o n i j, v, ⟨hl, hv⟩ => by
    simp only [ren]
    split
    · rename_i q hi
      obtain ⟨_, h1⟩ := ix_some hi
      simp only [Nat.sub_zero] at h1
      refine ⟨⟨o, h1, hl⟩, ?_⟩
      simp only [Env.ren, List.getD_eq_getElem?_getD, h1, Option.getD_some]
      exact hv
    · exact trivial
  | .ptr o off, v, ⟨hl, hv⟩ => by
    simp only [ren]
    split
    · rename_i i hi
      obtain ⟨_, h1⟩ := ix_some hi
      simp only [Nat.sub_zero] at h1
      refine ⟨⟨o, h1, hl⟩, ?_⟩
      simp only [Env.ren, List.getD_eq_getElem?_getD, h1, Option.getD_some]
      exact hv
    · exact trivial
  | .mp o, v, ⟨hl, hv⟩ => by
    simp only [ren]
    split
    · rename_i i hi
      obtain ⟨_, h1⟩ := ix_some hi
      simp only [Nat.sub_zero] at h1
      refine ⟨⟨o, h1, hl⟩, ?_⟩
      simp only [Env.ren, List.getD_eq_getElem?_getD, h1, Option.getD_some]
      exact hv
    · exact trivial
  | .sl kn es d none, v, H => H
  | .sl kn es d (some (k, g)), v, ⟨h1, hk, hg, hc⟩ => by
    simp only [ren]
    have hno : Rel (E.ren os ks g0) (.sl kn es d none) v := ⟨h1, trivial⟩
    split
    · rename_i j g' e hj hl
      cases hb : Nat.beq g g'
      · exact hno
      · obtain rfl := Nat.eq_of_beq_eq_true hb
        obtain ⟨_, h2⟩ := ix_some hj
        simp only [Nat.sub_zero] at h2
        have hjl := (List.getElem?_eq_some_iff.1 h2).1
        have hgn := (I.gn k (by rw [← I.m]; exact hk)).symm.trans hl
        injection hgn with hgn
        have hg1 : E.gn k = g := congrArg Prod.fst hgn
        refine ⟨h1, hjl, by show g0 + j < g0 + ks.length; omega, fun _ => ?_⟩
        simp only [Env.ren, List.getD_eq_getElem?_getD, h2, Option.getD_some]
        exact hc hg1
    · exact hno
  | .fn f a c, v, ⟨a', c', h1, h2, h3⟩ => ⟨a', c', h1, ren_relL I a _ h2, ren_relL I c _ h3⟩
  | .agg cs, v, ⟨cs', h1, h2, h3⟩ => ⟨cs', h1, ren_relL I cs _ h2, h3⟩
  | .tup vs, v, ⟨vs', h1, h2⟩ => ⟨vs', h1, ren_relL I vs _ h2⟩
theorem ren_relL (I : Inv P w0 G E h w) : ∀ (xs : List AV) (vs : List Value), RelL E xs vs → RelL (E.ren os ks g0) (renL os ks g0 h.gn xs) vs
  | [], _, H => H
  | x :: xs, _, ⟨v, vs', h1, h2, h3⟩ => ⟨v, vs', h1, ren_rel I x v h2, ren_relL I xs vs' h3⟩
end
theorem lookO_obR : ∀ (l : List Nat) (s i : Nat), lookO i (obR os ks g0 h l s) = if s ≤ i then (match l[i - s]? with | some o => (lookO o h.ob).map (renL os ks g0 h.gn) | none => none) else none
  | [], s, i => by simp [obR, lookO_nil]
  | o :: r, s, i => by
    have ih := lookO_obR r (s + 1) i
    have tail : s ≠ i → (if s + 1 ≤ i then (match r[i - (s + 1)]? with | some o => (lookO o h.ob).map (renL os ks g0 h.gn) | none => none) else none) = if s ≤ i then (match (o :: r)[i - s]? with | some o => (lookO o h.ob).map (renL os ks g0 h.gn) | none => none) else none := fun hne => by
      by_cases hs : s + 1 ≤ i
      · rw [if_pos hs, if_pos (by omega), show i - s = (i - (s + 1)) + 1 by omega, List.getElem?_cons_succ]
      · rw [if_neg hs, if_neg (by omega)]
    simp only [obR]
    split
    · rename_i cs hcs
      rw [lookO_cons]
      by_cases e : s = i
      · subst e; simp [hcs]
      · rw [if_neg e, ih, tail e]
    · rename_i hcs
      rw [ih]
      by_cases e : s = i
      · subst e; rw [if_neg (by omega), if_pos (Nat.le_refl _)]; simp [hcs]
      · rw [tail e]
theorem lookG_gnR {gn : List (Nat × Nat × TypeId)} : ∀ (l : List Nat) (s j : Nat), lookG j (gnR g0 gn l s) = if s ≤ j then (match l[j - s]? with | some k => (lookG k gn).map (fun p => (g0 + j, p.2)) | none => none) else none
  | [], s, j => by simp [gnR, lookG_nil]
  | k :: r, s, j => by
    have ih := lookG_gnR (gn := gn) r (s + 1) j
    have tail : s ≠ j → (if s + 1 ≤ j then (match r[j - (s + 1)]? with | some k => (lookG k gn).map (fun p => (g0 + j, p.2)) | none => none) else none) = if s ≤ j then (match (k :: r)[j - s]? with | some k => (lookG k gn).map (fun p => (g0 + j, p.2)) | none => none) else none := fun hne => by
      by_cases hs : s + 1 ≤ j
      · rw [if_pos hs, if_pos (by omega), show j - s = (j - (s + 1)) + 1 by omega, List.getElem?_cons_succ]
      · rw [if_neg hs, if_neg (by omega)]
    simp only [gnR]
    split
    · rename_i g e hk
      rw [lookG_cons]
      by_cases e : s = j
      · subst e; simp [hk]
      · rw [if_neg e, ih, tail e]
    · rename_i hk
      rw [ih]
      by_cases e : s = j
      · subst e; rw [if_neg (by omega), if_pos (Nat.le_refl _)]; simp [hk]
      · rw [tail e]
/-- the part of the heap that has new names -/
theorem Inv.ren (I : Inv P w0 G E h w) (ho : os.Nodup) (hk : ks.Nodup) (hkl : ∀ k ∈ ks, k < h.nv) (ep : Nat) : Inv P w0 G (E.ren os ks g0) (h.ren os ks g0 ep) w := by
  have key : ∀ {l : List Nat} {i : Nat}, i < l.length → ∃ o, l[i]? = some o ∧ l.getD i 0 = o ∧ o ∈ l := fun {l i} hi => ⟨l[i], List.getElem?_eq_getElem hi, by rw [List.getD_eq_getElem?_getD, List.getElem?_eq_getElem hi]; rfl, List.getElem_mem hi⟩
  have gd : ∀ {l : List Nat} {i o : Nat}, l[i]? = some o → l.getD i 0 = o := fun {l i o} hi => by rw [List.getD_eq_getElem?_getD, hi]; rfl
  have ndo : ∀ {l : List Nat}, l.Nodup → ∀ {i j o : Nat}, l[i]? = some o → l[j]? = some o → i = j := fun {l} hl {i j o} h1 h2 => by
    have hi := (List.getElem?_eq_some_iff.1 h1).1
    exact (List.getElem?_inj hi hl).1 (h1.trans h2.symm)
  refine ⟨I.kpt, rfl, rfl, fun j hj => ?_, fun j hj => ?_, fun i => ?_, fun i hi => ?_, fun i cs hcs => ?_, fun i hi => ?_, fun i i' hi hi' e => ?_, I.z, fun i j hi => ?_, fun j hj => ?_, fun j j' b hj hj' hb hb' => ?_, I.laid⟩
  · have hjl : j < ks.length := hj
    obtain ⟨k, h1, h2, h3⟩ := key hjl
    have h4 : lookG j (gnR g0 h.gn ks 0) = some (g0 + j, E.ve k) := by
      rw [lookG_gnR]
      simp [h1, I.gn k (hkl k h3)]
    simpa [Hp.ren, Env.ren, List.getD_eq_getElem?_getD, h1] using h4
  · have hjl : j < ks.length := hj
    show g0 + j < g0 + ks.length
    omega
  · show (∃ o, os[i]? = some o ∧ E.live o) ↔ (lookO i (obR os ks g0 h os 0)).isSome = true
    rw [lookO_obR]
    simp only [Nat.zero_le, if_true, Nat.sub_zero]
    cases hi : os[i]? with
    | none => simp
    | some o => simp [I.live o]
  · obtain ⟨o, h1, _⟩ := hi
    exact (List.getElem?_eq_some_iff.1 h1).1
  · have hcs' : lookO i (obR os ks g0 h os 0) = some cs := hcs
    rw [lookO_obR] at hcs'
    simp only [Nat.zero_le, if_true, Nat.sub_zero] at hcs'
    cases hi : os[i]? with
    | none => rw [hi] at hcs'; cases hcs'
    | some o =>
      rw [hi] at hcs'
      cases hc : lookO o h.ob with
      | none => simp [hc] at hcs'
      | some cs0 =>
        simp only [hc, Option.map_some, Option.some.injEq] at hcs'
        subst hcs'
        obtain ⟨vs, t, g1, g2, g3⟩ := I.ob o cs0 hc
        refine ⟨vs, t, ?_, ren_relL I _ _ g2, g3⟩
        show w.heap[E.β (os.getD i 0)]? = _
        rw [gd hi]; exact g1
  · obtain ⟨o, h1, h2⟩ := hi
    show w0.heap.size ≤ E.β (os.getD i 0) ∨ G (E.β (os.getD i 0))
    rw [gd h1]; exact I.own o h2
  · obtain ⟨o, h1, h2⟩ := hi
    obtain ⟨o', h1', h2'⟩ := hi'
    have e' : E.β (os.getD i 0) = E.β (os.getD i' 0) := e
    rw [gd h1, gd h1'] at e'
    obtain rfl := I.inj o o' h2 h2' e'
    exact ndo ho h1 h1'
  · obtain ⟨o, h1, h2⟩ := hi
    show E.Z (E.β (os.getD i 0)) j = none
    rw [gd h1]; exact I.zob o j h2
  · have hjl : j < ks.length := hj
    obtain ⟨k, h1, h2, h3⟩ := key hjl
    obtain ⟨sz, n, xs, g1, g2, g3, g4⟩ := I.vec k (hkl k h3)
    have g4' : ∀ b, (E.vc k).ownBlock = some b → (w0.heap.size ≤ b ∨ G b) ∧ (∀ i, (E.ren os ks g0).live i → (E.ren os ks g0).β i ≠ b) ∧ ∀ j, E.Z b j = xs[j]? := fun b hb => by
      refine ⟨(g4 b hb).1, fun i hi => ?_, (g4 b hb).2.2⟩
      obtain ⟨o, h5, h6⟩ := hi
      show E.β (os.getD i 0) ≠ b
      rw [gd h5]; exact (g4 b hb).2.1 o h6
    refine ⟨sz, n, xs, ?_, ?_, g3, ?_⟩
    · show sizeT P (E.ve (ks.getD j 0)) = some sz
      rw [h2]; exact g1
    · show ownsR w 0 (E.ve (ks.getD j 0)) sz (E.vc (ks.getD j 0)) n xs
      rw [h2]; exact g2
    · show ∀ b, (E.vc (ks.getD j 0)).ownBlock = some b → _
      rw [h2]; exact g4'
  · obtain ⟨k, h1, h2, h3⟩ := key (show j < ks.length from hj)
    obtain ⟨k', h1', h2', h3'⟩ := key (show j' < ks.length from hj')
    have hb1 : (E.vc (ks.getD j 0)).ownBlock = some b := hb
    have hb2 : (E.vc (ks.getD j' 0)).ownBlock = some b := hb'
    rw [h2] at hb1
    rw [h2'] at hb2
    obtain rfl := I.vinj k k' b (hkl k h3) (hkl k' h3') hb1 hb2
    exact ndo hk h1 h1'
end
end
end Go.Proofs.YtdlomggjhclmlaaGreatDoor

namespace Go.Proofs.YtdlomggjhclmlaaGreatDoor
set_option linter.unusedSimpArgs false
set_option linter.unusedVariables false
open Go.RowKit
set_option maxRecDepth 10000
noncomputable section

/-- slice j of the part is slice bk of the whole -/
def bk (ks : List Nat) (m j : Nat) : Nat := bif Nat.blt j ks.length then ks.getD j 0 else m + (j - ks.length)
mutual
/-- a value of the part, told of the whole (slices below mk are kept) -/
def bak (os ks : List Nat) (m ng mk : Nat) (gn : List (Nat × Nat × TypeId)) : AV → AV
  | .ptr i off => match os[i]? with | some o => .ptr o off | none => .any
  | .mp i => match os[i]? with | some o => .mp o | none => .any
  | .sl kn es d (some (j, g)) => match lookG j gn with
    | some (g', _) => bif Nat.beq g g' && Nat.blt j mk then .sl kn es d (some (bk ks m j, ng + j)) else .sl kn es d none
    | _ => .sl kn es d none
  | .fn f a c => .fn f (bakL os ks m ng mk gn a) (bakL os ks m ng mk gn c)
  | .agg cs => .agg (bakL os ks m ng mk gn cs)
  | .tup vs => .tup (bakL os ks m ng mk gn vs)
  | .sl kn es d none => .sl kn es d none
  | .any => .any
  | .sc kn v => .sc kn v
  | .ep kn es d j => .ep kn es d j
  | .rsl kn i n len => match os[i]? with | some o => .rsl kn o n len | none => .any
  | .rp kn i n e j => match os[i]? with | some o => .rp kn o n e j | none => .any
  | .rw es d => .rw es d
  | .vsl _ _ _ _ _ => .any
  | .al _ _ _ _ => .any
  | .ea _ => .any
def bakL (os ks : List Nat) (m ng mk : Nat) (gn : List (Nat × Nat × TypeId)) : List AV → List AV
  | [] => []
  | x :: xs => bak os ks m ng mk gn x :: bakL os ks m ng mk gn xs
end
def bakO (os ks : List Nat) (m ng mk : Nat) (h' : Hp) : List Nat → Nat → List (Nat × List AV)
  | [], _ => []
  | o :: r, i => match lookO i h'.ob with
    | some cs => (o, bakL os ks m ng mk h'.gn cs) :: bakO os ks m ng mk h' r (i + 1)
    | none => bakO os ks m ng mk h' r (i + 1)
def bakG (ks : List Nat) (m ng : Nat) (gn : List (Nat × Nat × TypeId)) : Nat → List (Nat × Nat × TypeId)
  | 0 => []
  | j + 1 => match lookG j gn with
    | some (_, e) => (bk ks m j, ng + j, e) :: bakG ks m ng gn j
    | none => bakG ks m ng gn j
/-- the whole, behind what was done to the part -/
def Hp.bak (h : Hp) (os ks : List Nat) (mk : Nat) (h' : Hp) : Hp :=
  ⟨bakO os ks h.nv h.ng mk h' os 0 ++ h.ob, h.nx, bakG ks h.nv h.ng h'.gn mk ++ h.gn, h.nv + (mk - ks.length), h.ng + mk, h.ep⟩

section
variable {P : Program} {E E' : Env} {h h' : Hp} {w w0 w' : World} {G : Nat → Prop} {os ks : List Nat} {g0 mk ep : Nat}

theorem ndp {l : List Nat} (hl : l.Nodup) {i j o : Nat} (h1 : l[i]? = some o) (h2 : l[j]? = some o) : i = j :=
  (List.getElem?_inj (List.getElem?_eq_some_iff.1 h1).1 hl).1 (h1.trans h2.symm)
theorem gdp {l : List Nat} {i o : Nat} (hi : l[i]? = some o) : l.getD i 0 = o := by rw [List.getD_eq_getElem?_getD, hi]; rfl
theorem bk_lt {m j : Nat} (hj : j < ks.length) : bk ks m j = ks.getD j 0 := by
  unfold bk
  rw [show Nat.blt j ks.length = true from Nat.ble_eq_true_of_le hj]
  rfl
theorem bk_ge {m j : Nat} (hj : ks.length ≤ j) : bk ks m j = m + (j - ks.length) := by
  unfold bk
  have : Nat.blt j ks.length = false := by
    cases hb : Nat.blt j ks.length
    · rfl
    · have := Nat.le_of_ble_eq_true hb; omega
  rw [this]; rfl
theorem bk_inj {m : Nat} (hk : ks.Nodup) (hkl : ∀ k ∈ ks, k < m) {i j : Nat} (e : bk ks m i = bk ks m j) : i = j := by
  have hm : ∀ {i}, i < ks.length → ks.getD i 0 < m := fun {i} hi => by
    rw [List.getD_eq_getElem?_getD, List.getElem?_eq_getElem hi]; exact hkl _ (List.getElem_mem hi)
  rcases Nat.lt_or_ge i ks.length with hi | hi <;> rcases Nat.lt_or_ge j ks.length with hj | hj
  · rw [bk_lt hi, bk_lt hj] at e
    refine ndp hk (List.getElem?_eq_getElem hi) ?_
    rw [List.getElem?_eq_getElem hj]
    rw [List.getD_eq_getElem?_getD, List.getD_eq_getElem?_getD, List.getElem?_eq_getElem hi, List.getElem?_eq_getElem hj] at e
    simpa using e.symm
  · rw [bk_lt hi, bk_ge hj] at e; have := hm hi; omega
  · rw [bk_ge hi, bk_lt hj] at e; have := hm hj; omega
  · rw [bk_ge hi, bk_ge hj] at e; omega
theorem lookG_bakG {m ng : Nat} {gn : List (Nat × Nat × TypeId)} (hk : ks.Nodup) (hkl : ∀ k ∈ ks, k < m) : ∀ (n : Nat), (∀ j, j < n → (lookG j gn).isSome = true) → (∀ j, j < n → lookG (bk ks m j) (bakG ks m ng gn n) = (lookG j gn).map fun p => (ng + j, p.2)) ∧ ∀ k, (∀ j, j < n → bk ks m j ≠ k) → lookG k (bakG ks m ng gn n) = none
  | 0, _ => ⟨fun j hj => by omega, fun _ _ => rfl⟩
  | n + 1, hs => by
    obtain ⟨h1, h2⟩ := lookG_bakG hk hkl n fun j hj => hs j (by omega)
    obtain ⟨p, hp⟩ := Option.isSome_iff_exists.1 (hs n (by omega))
    obtain ⟨g, e⟩ := p
    refine ⟨fun j hj => ?_, fun k hne => ?_⟩
    · simp only [bakG, hp]
      rw [lookG_cons]
      by_cases ej : n = j
      · subst ej; rw [if_pos rfl, hp]; rfl
      · rw [if_neg (fun e' => ej (bk_inj hk hkl e')), h1 j (by omega)]
    · simp only [bakG, hp]
      rw [lookG_cons, if_neg (hne n (by omega)), h2 k fun j hj => hne j (by omega)]
theorem lookG_append (k : Nat) : ∀ (a b : List (Nat × Nat × TypeId)), lookG k (a ++ b) = match lookG k a with | some x => some x | none => lookG k b
  | [], b => rfl
  | (i, g) :: a, b => by
    rw [List.cons_append, lookG_cons, lookG_cons]
    split
    · rfl
    · exact lookG_append k a b
theorem lookO_append (k : Nat) : ∀ (a b : List (Nat × List AV)), lookO k (a ++ b) = match lookO k a with | some x => some x | none => lookO k b
  | [], b => rfl
  | (i, g) :: a, b => by
    rw [List.cons_append, lookO_cons, lookO_cons]
    split
    · rfl
    · exact lookO_append k a b
theorem cnt_append (k : Nat) : ∀ (a b : List (Nat × List AV)), cnt k (a ++ b) = cnt k a + cnt k b
  | [], b => by simp [cnt_nil]
  | (i, g) :: a, b => by
    rw [List.cons_append, cnt_cons, cnt_cons, cnt_append k a b]
    split <;> omega
theorem cnt_pos : ∀ {k : Nat} {a : List (Nat × List AV)} {x : List AV}, lookO k a = some x → 0 < cnt k a
  | k, [], _, h => by cases h
  | k, (i, g) :: a, x, h => by
    rw [lookO_cons] at h
    rw [cnt_cons]
    split
    · omega
    · rename_i e; rw [if_neg e] at h; exact cnt_pos h
theorem lookO_bakO {m ng : Nat} (os0 : List Nat) : ∀ (l : List Nat) (s : Nat), l.Nodup → (∀ i o, l[i]? = some o → (lookO (s + i) h'.ob).isSome = true) →
    (∀ i o, l[i]? = some o → lookO o (bakO os0 ks m ng mk h' l s) = (lookO (s + i) h'.ob).map (bakL os0 ks m ng mk h'.gn)) ∧ ∀ o, o ∉ l → lookO o (bakO os0 ks m ng mk h' l s) = none ∧ cnt o (bakO os0 ks m ng mk h' l s) = 0
  | [], s, _, _ => ⟨fun i o h => by simp at h, fun _ _ => ⟨rfl, rfl⟩⟩
  | p :: r, s, hn, hs => by
    obtain ⟨hpr, hr⟩ := List.nodup_cons.1 hn
    obtain ⟨h1, h2⟩ := lookO_bakO os0 r (s + 1) hr fun i o hi => by
      have := hs (i + 1) o (by simpa using hi)
      rwa [show s + (i + 1) = s + 1 + i by omega] at this
    obtain ⟨cs, hcs⟩ := Option.isSome_iff_exists.1 (hs 0 p rfl)
    rw [Nat.add_zero] at hcs
    refine ⟨fun i o hi => ?_, fun o ho => ?_⟩
    · simp only [bakO, hcs]
      rw [lookO_cons]
      cases i with
      | zero => simp at hi; subst hi; rw [if_pos rfl, Nat.add_zero, hcs]; rfl
      | succ i =>
        have hi' : r[i]? = some o := by simpa using hi
        rw [if_neg (fun e : p = o => hpr (e ▸ List.mem_of_getElem? hi')), h1 i o hi', show s + (i + 1) = s + 1 + i by omega]
    · simp only [bakO, hcs]
      obtain ⟨ho1, ho2⟩ : o ≠ p ∧ o ∉ r := by simpa using ho
      rw [lookO_cons, cnt_cons, if_neg (fun e => ho1 e.symm), if_neg (fun e => ho1 e.symm)]
      exact h2 o ho2

/-- the meaning of the whole -/
def Env.bak (E : Env) (ks : List Nat) (mk ng : Nat) (E' : Env) : Env :=
  { β := E.β, live := E.live, Z := E'.Z
    vc := fun k => if k < E.m then (match ix k ks 0 with | some j => E'.vc j | none => E.vc k) else E'.vc (k - E.m + ks.length)
    gn := fun k => if k < E.m then (match ix k ks 0 with | some j => ng + j | none => E.gn k) else ng + (k - E.m + ks.length)
    ve := fun k => if k < E.m then (match ix k ks 0 with | some j => E'.ve j | none => E.ve k) else E'.ve (k - E.m + ks.length)
    m := E.m + (mk - ks.length), ng := ng + mk, yl := E'.yl }
theorem ix_mem : ∀ {l : List Nat} {i k s : Nat}, l.Nodup → l[i]? = some k → ix k l s = some (s + i)
  | [], _, _, _, _, h => by simp at h
  | p :: r, i, k, s, hn, h => by
    obtain ⟨hpr, hr⟩ := List.nodup_cons.1 hn
    simp only [ix]
    cases i with
    | zero => simp at h; subst h; simp
    | succ i =>
      have hi : r[i]? = some k := by simpa using h
      have hne : p ≠ k := fun e => hpr (e ▸ List.mem_of_getElem? hi)
      have hb : Nat.beq p k = false := by cases hb : Nat.beq p k; rfl; exact absurd (Nat.eq_of_beq_eq_true hb) hne
      rw [hb]
      simp only [cond_false]
      rw [ix_mem hr hi, show s + 1 + i = s + (i + 1) by omega]
theorem ix_none : ∀ {l : List Nat} {k s : Nat}, k ∉ l → ix k l s = none
  | [], _, _, _ => rfl
  | p :: r, k, s, h => by
    obtain ⟨h1, h2⟩ : k ≠ p ∧ k ∉ r := by simpa using h
    have hb : Nat.beq p k = false := by cases hb : Nat.beq p k; rfl; exact absurd (Nat.eq_of_beq_eq_true hb).symm h1
    simp only [ix, hb, cond_false]
    exact ix_none h2
/-- of slice bk j -/
theorem bak_bk (hk : ks.Nodup) (hkl : ∀ k ∈ ks, k < E.m) {ng j : Nat} : (E.bak ks mk ng E').vc (bk ks E.m j) = E'.vc j ∧ (E.bak ks mk ng E').gn (bk ks E.m j) = ng + j ∧ (E.bak ks mk ng E').ve (bk ks E.m j) = E'.ve j := by
  simp only [Env.bak]
  rcases Nat.lt_or_ge j ks.length with hj | hj
  · have hg := List.getElem?_eq_getElem hj
    rw [bk_lt hj, gdp hg, if_pos (hkl _ (List.getElem_mem hj)), if_pos (hkl _ (List.getElem_mem hj)), if_pos (hkl _ (List.getElem_mem hj)), ix_mem hk hg]
    simp
  · rw [bk_ge hj, if_neg (by omega), if_neg (by omega), if_neg (by omega), show E.m + (j - ks.length) - E.m + ks.length = j by omega]
    exact ⟨rfl, rfl, rfl⟩
theorem bak_old {ng k : Nat} (hkm : k < E.m) (hkn : k ∉ ks) : (E.bak ks mk ng E').vc k = E.vc k ∧ (E.bak ks mk ng E').gn k = E.gn k ∧ (E.bak ks mk ng E').ve k = E.ve k := by
  simp only [Env.bak, if_pos hkm, ix_none hkn]
  exact ⟨trivial, trivial, trivial⟩
/-- which slices there are -/
theorem bak_cases {k : Nat} (hkm : k < E.m + (mk - ks.length)) (hq : ks.length ≤ mk) : (k < E.m ∧ k ∉ ks) ∨ ∃ j, j < mk ∧ k = bk ks E.m j := by
  by_cases h1 : k < E.m
  · by_cases h2 : k ∈ ks
    · obtain ⟨j, hj⟩ := List.mem_iff_getElem?.1 h2
      have hjl := (List.getElem?_eq_some_iff.1 hj).1
      exact .inr ⟨j, by omega, by rw [bk_lt hjl, gdp hj]⟩
    · exact .inl ⟨h1, h2⟩
  · exact .inr ⟨k - E.m + ks.length, by omega, by rw [bk_ge (by omega)]; omega⟩

mutual
theorem bak_rel (I' : Inv P w (E.ren os ks g0).mine E' h' w') (hx : Ext (E.ren os ks g0) E') (hk : ks.Nodup) (hkl : ∀ k ∈ ks, k < E.m) (hmk : mk ≤ E'.m) (hq : ks.length ≤ mk) (hol : ∀ o ∈ os, E.live o) (ng : Nat) : ∀ (x : AV) (v : Value), Rel E' x v → Rel (E.bak ks mk ng E') (bak os ks E.m ng mk h'.gn x) v
  | .any, _, _ => trivial
  | .sc _ _, _, H => H
  | .ep _ _ _ _, _, H => H
  | .rw _ _, _, H => H
  | .vsl _ _ _ _ _, _, _ => trivial
  | .al _ _ _ _, _, _ => trivial
  | .ea _, _, _ => trivial
  | .rsl _ i _ _, v, ⟨hl, ad, cap, g1, g2, g3, g4, g5⟩ => by
    simp only [bak]
    split
    · rename_i o ho
      have hlo := hol o (List.mem_of_getElem? ho)
      have hb := hx.β i ⟨o, ho, hlo⟩
      refine ⟨hlo, ad, cap, g1, g2, g3, g4, fun hn => ?_⟩
      rw [g5 hn, hb]
      simp only [Env.ren, Env.bak, gdp ho]
    · exact trivial
  | .rp _ i _ _ _, v, ⟨hl, hv⟩ => by
    simp only [bak]
    split
    · rename_i o ho
      have hlo := hol o (List.mem_of_getElem? ho)
      have hb := hx.β i ⟨o, ho, hlo⟩
      refine ⟨hlo, ?_⟩
      rw [hv, hb]
      simp only [Env.ren, Env.bak, gdp ho]
    · exact trivial
  | .ptr i off, v, ⟨hl, hv⟩ => by
    simp only [bak]
    split
    · rename_i o ho
      have hlo := hol o (List.mem_of_getElem? ho)
      have hb := hx.β i ⟨o, ho, hlo⟩
      refine ⟨hlo, ?_⟩
      rw [hv, hb]
      simp only [Env.ren, Env.bak, gdp ho]
    · exact trivial
  | .mp i, v, ⟨hl, hv⟩ => by
    simp only [bak]
    split
    · rename_i o ho
      have hlo := hol o (List.mem_of_getElem? ho)
      have hb := hx.β i ⟨o, ho, hlo⟩
      refine ⟨hlo, ?_⟩
      rw [hv, hb]
      simp only [Env.ren, Env.bak, gdp ho]
    · exact trivial
  | .sl kn es d none, v, H => H
  | .sl kn es d (some (j, g)), v, ⟨h1, hj, hg, hc⟩ => by
    simp only [bak]
    have hno : Rel (E.bak ks mk ng E') (.sl kn es d none) v := ⟨h1, trivial⟩
    split
    · rename_i g' e hl
      cases hb : Nat.beq g g' && Nat.blt j mk
      · exact hno
      · simp only [Bool.and_eq_true] at hb
        obtain rfl := Nat.eq_of_beq_eq_true hb.1
        have hjm : j < mk := Nat.le_of_ble_eq_true hb.2
        have hgn := (I'.gn j (by rw [← I'.m]; exact hj)).symm.trans hl
        injection hgn with hgn
        have hg1 : E'.gn j = g := congrArg Prod.fst hgn
        obtain ⟨b1, b2, b3⟩ := bak_bk (E := E) (E' := E') (mk := mk) hk hkl (ng := ng) (j := j)
        refine ⟨h1, ?_, by show ng + j < ng + mk; omega, fun _ => ?_⟩
        · show bk ks E.m j < E.m + (mk - ks.length)
          rcases Nat.lt_or_ge j ks.length with h | h
          · rw [bk_lt h, gdp (List.getElem?_eq_getElem h)]
            have := hkl _ (List.getElem_mem h); omega
          · rw [bk_ge h]; omega
        · rw [b1]; exact hc hg1
    · exact hno
  | .fn f a c, v, ⟨a', c', h1, h2, h3⟩ => ⟨a', c', h1, bak_relL I' hx hk hkl hmk hq hol ng a _ h2, bak_relL I' hx hk hkl hmk hq hol ng c _ h3⟩
  | .agg cs, v, ⟨cs', h1, h2, h3⟩ => ⟨cs', h1, bak_relL I' hx hk hkl hmk hq hol ng cs _ h2, h3⟩
  | .tup vs, v, ⟨vs', h1, h2⟩ => ⟨vs', h1, bak_relL I' hx hk hkl hmk hq hol ng vs _ h2⟩
theorem bak_relL (I' : Inv P w (E.ren os ks g0).mine E' h' w') (hx : Ext (E.ren os ks g0) E') (hk : ks.Nodup) (hkl : ∀ k ∈ ks, k < E.m) (hmk : mk ≤ E'.m) (hq : ks.length ≤ mk) (hol : ∀ o ∈ os, E.live o) (ng : Nat) : ∀ (xs : List AV) (vs : List Value), RelL E' xs vs → RelL (E.bak ks mk ng E') (bakL os ks E.m ng mk h'.gn xs) vs
  | [], _, H => H
  | x :: xs, _, ⟨v, vs', h1, h2, h3⟩ => ⟨v, vs', h1, bak_rel I' hx hk hkl hmk hq hol ng x v h2, bak_relL I' hx hk hkl hmk hq hol ng xs vs' h3⟩
end

theorem Inv.bak (I : Inv P w0 G E h w) (hon : os.Nodup) (hol : ∀ o ∈ os, E.live o) (hk : ks.Nodup) (hkl : ∀ k ∈ ks, k < E.m) (hq : ks.length ≤ mk) (hmk : mk ≤ E'.m)
    (S : Stepd P w (E.ren os ks g0).mine (E.ren os ks g0) (h.ren os ks g0 ep) w E' h' w') :
    Stepd P w0 G E h w (E.bak ks mk h.ng E') (h.bak os ks mk h') w' := by
  have I' := S.inv
  have hx := S.ext
  have hm0 := I.m
  -- what the call may write
  have mine : ∀ b, (E.ren os ks g0).mine b → (∃ o, o ∈ os ∧ E.β o = b) ∨ ∃ k, k ∈ ks ∧ (E.vc k).ownBlock = some b := fun b hb => by
    rcases hb with ⟨i, ⟨o, h1, h2⟩, h3⟩ | ⟨j, hj, hb⟩
    · left
      refine ⟨o, List.mem_of_getElem? h1, ?_⟩
      have : E.β (os.getD i 0) = b := h3
      rwa [gdp h1] at this
    · right
      have hj' : j < ks.length := hj
      have hb' : (E.vc (ks.getD j 0)).ownBlock = some b := hb
      rw [gdp (List.getElem?_eq_getElem hj')] at hb'
      exact ⟨_, List.getElem_mem hj', hb'⟩
  have mineG : ∀ b, (E.ren os ks g0).mine b → w0.heap.size ≤ b ∨ G b := fun b hb => by
    rcases mine b hb with ⟨o, h1, rfl⟩ | ⟨k, h1, h2⟩
    · exact I.own o (hol o h1)
    · obtain ⟨_, _, _, _, _, _, g4⟩ := I.vec k (by rw [← I.m]; exact hkl k h1)
      exact (g4 b h2).1
  have notobj : ∀ o, E.live o → o ∉ os → ¬ (E.ren os ks g0).mine (E.β o) := fun o hl hn hb => by
    rcases mine _ hb with ⟨o', h1, h2⟩ | ⟨k, h1, h2⟩
    · exact hn (I.inj o' o (hol o' h1) hl h2 ▸ h1)
    · obtain ⟨_, _, _, _, _, _, g4⟩ := I.vec k (by rw [← I.m]; exact hkl k h1)
      exact (g4 _ h2).2.1 o hl rfl
  have notvec : ∀ k, k < E.m → k ∉ ks → ∀ b, (E.vc k).ownBlock = some b → ¬ (E.ren os ks g0).mine b := fun k hkm hn b hb hmb => by
    obtain ⟨_, _, _, _, _, _, g4⟩ := I.vec k (by rw [← I.m]; exact hkm)
    rcases mine _ hmb with ⟨o, h1, h2⟩ | ⟨k', h1, h2⟩
    · exact (g4 b hb).2.1 o (hol o h1) h2
    · exact hn (I.vinj k k' b (by rw [← I.m]; exact hkm) (by rw [← I.m]; exact hkl k' h1) hb h2 ▸ h1)
  have same : ∀ b, b < w.heap.size → ¬ (E.ren os ks g0).mine b → w'.heap[b]? = w.heap[b]? := fun b hb hn => I'.kpt.block b hb hn
  have liveE' : ∀ i o, os[i]? = some o → E'.live i ∧ E'.β i = E.β o := fun i o hi => by
    have hl : (E.ren os ks g0).live i := ⟨o, hi, hol o (List.mem_of_getElem? hi)⟩
    refine ⟨hx.live i hl, (hx.β i hl).trans ?_⟩
    show E.β (os.getD i 0) = E.β o
    rw [gdp hi]
  have zold : ∀ b j v, b < w.heap.size → ¬ (E.ren os ks g0).mine b → E'.Z b j = some v → E.Z b j = some v := fun b j v hb hn hz => by
    rcases S.zn b j v hz with h | h | h
    · exact h
    · omega
    · exact absurd h hn
  have hZ : ∀ b j v, E.Z b j = some v → E'.Z b j = some v := hx.Z
  have hmm : E'.m = h'.nv := I'.m
  have hGs : ∀ j, j < mk → (lookG j h'.gn).isSome = true := fun j hj => by rw [I'.gn j (by omega)]; rfl
  have hkl' : ∀ k ∈ ks, k < h.nv := fun k hk' => by rw [← I.m]; exact hkl k hk'
  obtain ⟨bg1, bg2⟩ := lookG_bakG (ng := h.ng) hk hkl' mk hGs
  have hOs : ∀ i o, os[i]? = some o → (lookO (0 + i) h'.ob).isSome = true := fun i o hi => by
    rw [Nat.zero_add]; exact (I'.live i).1 (liveE' i o hi).1
  obtain ⟨bo1, bo2⟩ := lookO_bakO (ks := ks) (m := h.nv) (ng := h.ng) (mk := mk) (h' := h') os os 0 hon hOs
  have hext : Ext E (E.bak ks mk h.ng E') := by
    refine ⟨fun _ h => h, fun _ _ => rfl, hZ, Nat.le_add_right _ _, by rw [I.ng]; exact Nat.le_add_right _ _, fun k hkm => ?_, hx.yl⟩
    by_cases hn : k ∈ ks
    · obtain ⟨j, hj⟩ := List.mem_iff_getElem?.1 hn
      right
      simp only [Env.bak, if_pos hkm, ix_mem hk hj]
      rw [I.ng]; omega
    · obtain ⟨a1, a2, _⟩ := bak_old (mk := mk) (E' := E') (ng := h.ng) hkm hn
      exact .inl ⟨a1, a2⟩
  have hbr : ∀ (xs : List AV) (vs : List Value), RelL E' xs vs → RelL (E.bak ks mk h.ng E') (bakL os ks h.nv h.ng mk h'.gn xs) vs := fun xs vs hr => by
    rw [← I.m]; exact bak_relL I' hx hk hkl hmk hq hol h.ng xs vs hr
  -- a slice of the part lies apart
  have partv : ∀ j, j < mk → ∀ b, (E'.vc j).ownBlock = some b → w.heap.size ≤ b ∨ (E.ren os ks g0).mine b := fun j hj b hb => by
    obtain ⟨_, _, _, _, _, _, g4⟩ := I'.vec j (by omega)
    exact (g4 b hb).1
  refine ⟨hext, ⟨I.kpt.then I'.kpt mineG, by show E.m + (mk - ks.length) = h.nv + (mk - ks.length); rw [I.m], rfl, fun k hkn => ?_, fun k hkn => ?_, fun o => ?_, I.nx, fun o cs hcs => ?_, I.own, I.inj, I'.z, fun o j hlo => ?_, fun k hkn => ?_, fun k k' b hkn hkn' hb hb' => ?_, I'.laid⟩, fun o hlo => ?_, fun b j v hz => ?_⟩
  · -- stamps
    show lookG k (bakG ks h.nv h.ng h'.gn mk ++ h.gn) = _
    rw [lookG_append]
    rcases bak_cases (E := E) (mk := mk) (by rw [I.m]; exact hkn) hq with ⟨h1, h2⟩ | ⟨j, h1, rfl⟩
    · obtain ⟨a1, a2, a3⟩ := bak_old (mk := mk) (E' := E') (ng := h.ng) h1 h2
      rw [a2, a3, bg2 k fun j hj e => ?_]
      · exact I.gn k (by rw [← I.m]; exact h1)
      · rcases Nat.lt_or_ge j ks.length with hjl | hjl
        · rw [bk_lt hjl, gdp (List.getElem?_eq_getElem hjl)] at e
          exact h2 (e ▸ List.getElem_mem hjl)
        · rw [bk_ge hjl] at e; omega
    · obtain ⟨a1, a2, a3⟩ := bak_bk (E := E) (E' := E') (mk := mk) hk hkl (ng := h.ng) (j := j)
      have := bg1 j h1
      rw [a2, a3]
      rw [← I.m] at this ⊢
      rw [this, I'.gn j (by omega)]
      rfl
  · rcases bak_cases (E := E) (mk := mk) (by rw [I.m]; exact hkn) hq with ⟨h1, h2⟩ | ⟨j, h1, rfl⟩
    · obtain ⟨a1, a2, a3⟩ := bak_old (mk := mk) (E' := E') (ng := h.ng) h1 h2
      rw [a2]
      have := I.gnlt k (by rw [← I.m]; exact h1)
      show E.gn k < h.ng + mk
      omega
    · obtain ⟨a1, a2, a3⟩ := bak_bk (E := E) (E' := E') (mk := mk) hk hkl (ng := h.ng) (j := j)
      rw [a2]
      show h.ng + j < h.ng + mk
      omega
  · -- which objects
    show E.live o ↔ (lookO o (bakO os ks h.nv h.ng mk h' os 0 ++ h.ob)).isSome = true
    rw [lookO_append]
    by_cases ho : o ∈ os
    · obtain ⟨i, hi⟩ := List.mem_iff_getElem?.1 ho
      rw [bo1 i o hi]
      obtain ⟨cs, hcs⟩ := Option.isSome_iff_exists.1 (hOs i o hi)
      rw [hcs]
      simp [hol o ho]
    · rw [(bo2 o ho).1]
      exact I.live o
  · have hcs' : lookO o (bakO os ks h.nv h.ng mk h' os 0 ++ h.ob) = some cs := hcs
    rw [lookO_append] at hcs'
    by_cases ho : o ∈ os
    · obtain ⟨i, hi⟩ := List.mem_iff_getElem?.1 ho
      rw [bo1 i o hi, Nat.zero_add] at hcs'
      cases hc : lookO i h'.ob with
      | none =>
        have := hOs i o hi
        rw [Nat.zero_add, hc] at this; cases this
      | some cs0 =>
        simp only [hc, Option.map_some, Option.some.injEq] at hcs'
        subst hcs'
        obtain ⟨vs, t, g1, g2, g3⟩ := I'.ob i cs0 hc
        refine ⟨vs, t, ?_, hbr _ _ g2, g3⟩
        show w'.heap[E.β o]? = _
        rw [← (liveE' i o hi).2]; exact g1
    · rw [(bo2 o ho).1] at hcs'
      simp only at hcs'
      obtain ⟨vs, t, g1, g2, g3⟩ := I.ob o cs hcs'
      have hlo : E.live o := (I.live o).2 (by rw [hcs']; rfl)
      exact ⟨vs, t, (same _ (I.live_lt hlo) (notobj o hlo ho)).trans g1, RelL.mono hext _ _ g2, g3⟩
  · show E'.Z (E.β o) j = none
    by_cases ho : o ∈ os
    · obtain ⟨i, hi⟩ := List.mem_iff_getElem?.1 ho
      rw [← (liveE' i o hi).2]
      exact I'.zob i j (liveE' i o hi).1
    · cases hz : E'.Z (E.β o) j with
      | none => rfl
      | some v =>
        have := zold _ _ _ (I.live_lt hlo) (notobj o hlo ho) hz
        rw [I.zob o j hlo] at this; cases this
  · -- slices
    rcases bak_cases (E := E) (mk := mk) (by rw [I.m]; exact hkn) hq with ⟨h1, h2⟩ | ⟨j, h1, rfl⟩
    · obtain ⟨a1, a2, a3⟩ := bak_old (mk := mk) (E' := E') (ng := h.ng) h1 h2
      rw [a1, a3]
      obtain ⟨sz, n, xs, g1, g2, g3, g4⟩ := I.vec k (by rw [← I.m]; exact h1)
      refine ⟨sz, n, xs, g1, owns_same g2 fun b hb => same b (owns_lt g2 hb) (notvec k h1 h2 b hb), g3, fun b hb => ⟨(g4 b hb).1, (g4 b hb).2.1, fun j => ?_⟩⟩
      show E'.Z b j = xs[j]?
      rw [← (g4 b hb).2.2 j]
      cases hz : E.Z b j with
      | some v => exact hZ b j v hz
      | none =>
        cases hz' : E'.Z b j with
        | none => rfl
        | some v =>
          have := zold _ _ _ (owns_lt g2 hb) (notvec k h1 h2 b hb) hz'
          rw [hz] at this; cases this
    · obtain ⟨a1, a2, a3⟩ := bak_bk (E := E) (E' := E') (mk := mk) hk hkl (ng := h.ng) (j := j)
      rw [a1, a3]
      obtain ⟨sz, n, xs, g1, g2, g3, g4⟩ := I'.vec j (by omega)
      refine ⟨sz, n, xs, g1, g2, g3, fun b hb => ⟨?_, fun o hlo e => ?_, (g4 b hb).2.2⟩⟩
      · rcases (g4 b hb).1 with h | h
        · exact .inl (Nat.le_trans I.kpt.size h)
        · exact mineG b h
      · have e' : E.β o = b := e
        by_cases ho : o ∈ os
        · obtain ⟨i, hi⟩ := List.mem_iff_getElem?.1 ho
          exact (g4 b hb).2.1 i (liveE' i o hi).1 ((liveE' i o hi).2.trans e')
        · rcases (g4 b hb).1 with h | h
          · have := I.live_lt hlo; omega
          · exact notobj o hlo ho (e' ▸ h)
  · have old : ∀ k, k < E.m → k ∉ ks → ∀ b, (E.vc k).ownBlock = some b → ∀ j, j < mk → (E'.vc j).ownBlock ≠ some b := fun k h1 h2 b hb j hj hbj => by
      obtain ⟨_, _, _, _, g2, _⟩ := I.vec k (by rw [← I.m]; exact h1)
      rcases partv j hj b hbj with h | h
      · have := owns_lt g2 hb; omega
      · exact notvec k h1 h2 b hb h
    rcases bak_cases (E := E) (mk := mk) (by rw [I.m]; exact hkn) hq with ⟨h1, h2⟩ | ⟨j, h1, rfl⟩ <;> rcases bak_cases (E := E) (mk := mk) (by rw [I.m]; exact hkn') hq with ⟨h1', h2'⟩ | ⟨j', h1', rfl⟩
    · rw [(bak_old (mk := mk) (E' := E') (ng := h.ng) h1 h2).1] at hb
      rw [(bak_old (mk := mk) (E' := E') (ng := h.ng) h1' h2').1] at hb'
      exact I.vinj k k' b (by rw [← I.m]; exact h1) (by rw [← I.m]; exact h1') hb hb'
    · rw [(bak_old (mk := mk) (E' := E') (ng := h.ng) h1 h2).1] at hb
      rw [(bak_bk (E := E) (E' := E') (mk := mk) hk hkl (ng := h.ng) (j := j')).1] at hb'
      exact absurd hb' (old k h1 h2 b hb j' h1')
    · rw [(bak_bk (E := E) (E' := E') (mk := mk) hk hkl (ng := h.ng) (j := j)).1] at hb
      rw [(bak_old (mk := mk) (E' := E') (ng := h.ng) h1' h2').1] at hb'
      exact absurd hb (old k' h1' h2' b hb' j h1)
    · rw [(bak_bk (E := E) (E' := E') (mk := mk) hk hkl (ng := h.ng) (j := j)).1] at hb
      rw [(bak_bk (E := E) (E' := E') (mk := mk) hk hkl (ng := h.ng) (j := j')).1] at hb'
      rw [I'.vinj j j' b (by omega) (by omega) hb hb']
  · have hv : ver o (h.bak os ks mk h') = h.ep + (cnt o (bakO os ks h.nv h.ng mk h' os 0) + cnt o h.ob) := by
      show h.ep + cnt o (bakO os ks h.nv h.ng mk h' os 0 ++ h.ob) = _
      rw [cnt_append]
    unfold ver at hv ⊢
    rw [hv]
    refine ⟨by omega, fun e => ?_⟩
    by_cases ho : o ∈ os
    · obtain ⟨i, hi⟩ := List.mem_iff_getElem?.1 ho
      have := bo1 i o hi
      obtain ⟨cs, hcs⟩ := Option.isSome_iff_exists.1 (hOs i o hi)
      rw [hcs] at this
      have := cnt_pos this
      omega
    · exact same _ (I.live_lt hlo) (notobj o hlo ho)
  · rcases S.zn b j v hz with h | h | h
    · exact .inl h
    · exact .inr (.inl (Nat.le_trans I.kpt.size h))
    · exact .inr (mineG b h)
end
end
end Go.Proofs.YtdlomggjhclmlaaGreatDoor
