/- EvA: the evaluator's code and calls are right. No condition. -/
import Derived.Test.YtokiedeiamlnlaaGreatEvP
import Derived.Test.YtokiedeiamlnlaaGreatEvL
import Derived.Scope
namespace Go.Proofs.YtokiedeiamlnlaaGreat
set_option linter.unusedSimpArgs false
set_option linter.unusedVariables false
open Go.RowKit
set_option maxRecDepth 10000
noncomputable section

def Ex.to : Ex → Exit
  | .normal => .normal
  | .exit id => .exit id
  | .ret => .ret
def Post (P : Program) (w0 : World) (G : Nat → Prop) (E : Env) (h : Hp) (w : World) (K : Out → Prop) (Q : Exit → Act → World → Prop) : Prop :=
  ∀ ex F' h' E' a' w', K (ex, F', h') → Stepd P w0 G E h w E' h' w' → RelT E' F' a' → Q ex.to a' w'
theorem Post.step {P : Program} {w0 w w1 : World} {G : Nat → Prop} {E E1 : Env} {h h1 : Hp} {K : Out → Prop} {Q : Exit → Act → World → Prop} (hp : Post P w0 G E h w K Q) (hs : Stepd P w0 G E h w E1 h1 w1) : Post P w0 G E1 h1 w1 K Q :=
  fun ex F' h' E' a' w' hk hs' hT => hp ex F' h' E' a' w' hk (hs.trans hs') hT
/-- a block is told right -/
def BOk (P : Program) (c : Code) (sp : BSpec) : Prop := ∀ F h K, (sp F h).holds K → ∀ w0 G E w a Q, Inv P w0 G E h w → RelT E F a → Post P w0 G E h w K Q → c.wp P Q a w
def blocksOf (id : Nat) : Code → List Code
  | .seq a b => blocksOf id a ++ blocksOf id b
  | .cond _ a b => blocksOf id a ++ blocksOf id b
  | .block j b => (if j = id then [.block j b] else []) ++ blocksOf id b
  | .loop b => blocksOf id b
  | .scope b => blocksOf id b
  | _ => []
def LamOk (P : Program) (Λ : FuncId → Nat → Option BSpec) (f : FuncId) (c : Code) : Prop := ∀ id sp, Λ f id = some sp → ∀ c' ∈ blocksOf id c, BOk P c' sp
def LamAll (P : Program) (Λ : FuncId → Nat → Option BSpec) : Prop := ∀ f fn b, plainF P f = some (fn, b) → LamOk P Λ f b
/-- a function is told right -/
def SoundF (P : Program) (g : FuncId) (sp : Spec) : Prop := ∀ args h K, (sp args h).holds K → ∀ w0 G E w vals, Inv P w0 G E h w → RelL E args vals →
  Calls P g vals.toArray w fun e w' => ∃ r h' v E', K (r, h') ∧ e = .returned v ∧ Stepd P w0 G E h w E' h' w' ∧ Rel E' r v
def GamOk (P : Program) (Γ : FuncId → Option Spec) : Prop := ∀ g sp, Γ g = some sp → SoundF P g sp

section
variable {P : Program} {E : Env} {F : Tm} {h : Hp} {w w0 : World} {G : Nat → Prop} {a : Act} {Γ : FuncId → Option Spec} {Λ : FuncId → Nat → Option BSpec}

theorem Inv.drew (I : Inv P w0 G E h w) (n : Nat) : Stepd P w0 G E h w E h { w with drawn := n } :=
  ⟨Ext.refl E, ⟨⟨I.kpt.os, I.kpt.tape, I.kpt.output, I.kpt.size, I.kpt.block⟩, I.m, I.ng, I.gn, I.gnlt, I.live, I.nx, I.ob, I.own, I.inj, I.z, I.zob, I.vec, I.vinj, I.laid⟩, fun _ _ => ⟨Nat.le_refl _, fun _ => rfl⟩, fun _ _ _ hz => .inl hz⟩

theorem look_zip : ∀ (args : List AV) (s i : Nat), look i ((List.range' s args.length).zip args) = if s ≤ i ∧ i < s + args.length then (args[i - s]?).getD .any else .any
  | [], s, i => by simp [look_nil]
  | x :: args, s, i => by
    simp only [List.length_cons, List.range'_succ, List.zip_cons_cons, look_cons]
    rw [look_zip args (s + 1) i]
    cases hb : Nat.beq s i
    · have hne : s ≠ i := fun e => by rw [e] at hb; simp at hb
      simp only [cond_false]
      by_cases hc : s + 1 ≤ i ∧ i < s + 1 + args.length
      · rw [if_pos hc, if_pos ⟨by omega, by omega⟩, show i - s = (i - (s + 1)) + 1 by omega, List.getElem?_cons_succ]
      · rw [if_neg hc, if_neg (by omega)]
    · obtain rfl := Nat.eq_of_beq_eq_true hb
      simp
theorem enterA_ok (hlaid : Laid E) {fn : Func} {args : List AV} {vals : List Value} (hr : RelL E args vals) (hle : args.length ≤ fn.ntmps) : RelT E (enterA fn args) { tmps := vals.toArray ++ Array.replicate (fn.ntmps - vals.toArray.size) undef, defers := [] } := by
  have hl := hr.length
  refine ⟨by simp [enterA]; omega, fun i => ?_, hlaid, rfl⟩
  have hz := look_zip args 0 i
  rw [← List.range_eq_range'] at hz
  simp only [enterA]
  rw [hz]
  by_cases hi : i < args.length
  · rw [if_pos ⟨Nat.zero_le _, by omega⟩, Nat.sub_zero]
    obtain ⟨v, hv, hrv⟩ := hr.get (List.getElem?_eq_getElem hi)
    rw [List.getElem?_eq_getElem hi, Option.getD_some, Array.getD_eq_getD_getElem?, Array.getElem?_append_left (by simpa [← hl] using hi)]
    simpa [hv] using hrv
  · rw [if_neg (by omega)]; exact trivial
theorem run_loadAt_asAddr {t : TypeId} {v u : Value} (hl : (Instr.loadAt t v).run P w = .ok u w) : (do loadVar t (← asAddr v) : Sem Value).run P w = .ok u w := by
  cases v with
  | pointer ad =>
    cases ad with
    | some ad => simpa [Instr.loadAt, Instr.sureAddr, asAddr] using hl
    | none => simp [Instr.loadAt, Instr.sureAddr, stuck] at hl
  | _ => simp [Instr.loadAt, Instr.sureAddr, stuck] at hl
def rsOf (t : Array Value) : ResultVar → Sem Value
  | .tmp x => pure (t.getD x undef)
  | .cell x ty => do loadVar ty (← asAddr (t.getD x undef))
theorem resA_ok {K : List AV → Prop} : ∀ {rs : List ResultVar}, (resA P F h rs).holds K → Inv P w0 G E h w → RelT E F a → ∃ vs us, K vs ∧ RelL E vs us ∧
    (rs.mapM (m := Sem) (rsOf a.tmps)).run P w = .ok us w
  | [], H, _, _ => ⟨[], [], H, rfl, rfl⟩
  | .tmp t :: rs, H, I, hT => by
    simp only [resA] at H
    rw [RT.holds_bind] at H
    obtain ⟨vs, us, h1, h2, h3⟩ := resA_ok H I hT
    refine ⟨_, a.tmps.getD t undef :: us, h1, ⟨_, _, rfl, hT.tm t, h2⟩, ?_⟩
    simp only [List.mapM_cons, rsOf, Sem.run_bind, Sem.run_pure, Result.andThen_ok, h3]
  | .cell x t :: rs, H, I, hT => by
    simp only [resA] at H
    rw [RT.holds_bind] at H
    obtain ⟨av, u, g1, g2, g3⟩ := loadA_ok H I (hT.tm x)
    rw [RT.holds_bind] at g1
    obtain ⟨vs, us, h1, h2, h3⟩ := resA_ok g1 I hT
    refine ⟨_, u :: us, h1, ⟨_, _, rfl, g3, h2⟩, ?_⟩
    have := run_loadAt_asAddr (g2 w (I.sees _))
    simp only [Sem.run_bind] at this
    simp only [List.mapM_cons, rsOf, Sem.run_bind, this, Sem.run_pure, Result.andThen_ok, h3]
theorem resultA_ok {K : AV × Hp → Prop} {fn : Func} (H : (resultA P fn F h).holds K) (I : Inv P w0 G E h w) (hT : RelT E F a) : ∃ r v, K (r, h) ∧ Rel E r v ∧ (results fn a.tmps).run P w = .ok v w := by
  unfold resultA at H
  rw [RT.holds_bind] at H
  obtain ⟨vs, us, h1, h2, h3⟩ := resA_ok H I hT
  have hres : (results fn a.tmps).run P w = .ok (if h : us.toArray.size = 1 then us.toArray[0] else .tuple us.toArray) w := by
    show (do let vs ← fn.results.mapM (rsOf a.tmps); pure (if h : vs.size = 1 then vs[0] else .tuple vs) : Sem Value).run P w = _
    rw [Array.mapM_eq_mapM_toList]
    have : (List.toArray <$> List.mapM (m := Sem) (rsOf a.tmps) fn.results.toList).run P w = .ok us.toArray w := by
      show (List.mapM (m := Sem) (rsOf a.tmps) fn.results.toList >>= fun l => pure l.toArray : Sem _).run P w = _
      rw [Sem.run_bind, h3]
      rfl
    rw [Sem.run_bind, this]
    rfl
  split at h1
  · rename_i av
    obtain ⟨u, us', rfl, g1, g2⟩ := h2
    have g2' : us' = [] := g2
    subst g2'
    exact ⟨av, u, h1, g1, by rw [hres]; simp⟩
  · rename_i hne
    refine ⟨.tup vs, .tuple us.toArray, h1, ⟨_, rfl, by simpa using h2⟩, ?_⟩
    rw [hres]
    have hl := h2.length
    rw [dif_neg]
    intro h0
    have : vs.length = 1 := by rw [hl]; simpa using h0
    obtain ⟨x, rfl⟩ := List.length_eq_one_iff.1 this
    exact hne x rfl

theorem plainF_ok {f : FuncId} {fn : Func} {b : Code} (hp : plainF P f = some (fn, b)) : P.funcs[f]? = some fn ∧ fn.body = some b := by
  unfold plainF at hp
  split at hp
  · rename_i fn' hf
    split at hp
    · rename_i c hc
      cases hp; exact ⟨hf, hc⟩
    · cases hp
  · cases hp
/-- code, at a depth -/
def CodeOk (P : Program) (Γ : FuncId → Option Spec) (Λ : FuncId → Nat → Option BSpec) (n : Nat) : Prop := ∀ f c F h K, (evC P Γ Λ n f c F h).holds K → LamOk P Λ f c → ∀ w0 G E w a Q, Inv P w0 G E h w → RelT E F a → Post P w0 G E h w K Q → c.wp P Q a w
/-- what a piece of code does -/
def RecOk (P : Program) (b : Code) (T : Tm → Hp → RT Out) : Prop := ∀ F h K, (T F h).holds K → ∀ w0 G E w a Q, Inv P w0 G E h w → RelT E F a → Post P w0 G E h w K Q → b.wp P Q a w
theorem runDf_ok (hng : noGor P = true) {rec : FuncId → Code → Tm → Hp → RT Out} {fn : Func} {tmps : Array Value} {R : Ending → World → Prop} (hrec : ∀ g fn b, plainF P g = some (fn, b) → RecOk P b (rec g b)) : ∀ {df : List (FuncId × List AV)} {ds : List Deferred} {K : Hp → Prop} {E : Env} {h : Hp} {w : World},
    (runDf P rec df h).holds K → Inv P w0 G E h w → RelD E df ds → (∀ h' E' w', K h' → Stepd P w0 G E h w E' h' w' → ∃ v, (results fn tmps).run P w' = .ok v w' ∧ R (.returned v) w') → Leaves P fn tmps R ds .returning w
  | [], ds, K, E, h, w, H, I, hD, hk => by
    have : ds = [] := hD
    subst this
    exact hk h E w H (Stepd.refl I)
  | (g, args) :: df, ds, K, E, h, w, H, I, ⟨cap, av, ds', h1, h2, h3⟩, hk => by
    subst h1
    unfold runDf at H
    split at H
    · exact H.elim
    rename_i gn b hp
    cases hle : Nat.ble args.length gn.ntmps
    · rw [hle] at H; exact H.elim
    rw [hle] at H
    simp only [cond_true] at H
    rw [RT.holds_bind] at H
    obtain ⟨hf, hb⟩ := plainF_ok hp
    refine leaves_cons (f := g) (args := (av.toList ++ cap.toList).toArray) (by simp) ?_ ?_
    · have harr : av ++ cap = (av.toList ++ cap.toList).toArray := by apply Array.ext'; simp
      simp only [invoke]
      rw [callFunc_plain ⟨by rw [hp]; rfl, hng⟩, harr]
    · refine (callsD_of_wp (R := fun e w' => ∃ v, e = .returned v ∧ Leaves P fn tmps R ds' .returning w') hf hb (hrec g gn b hp _ _ _ H w0 G E w _ _ I (enterA_ok I.laid h2 (Nat.le_of_ble_eq_true hle)) ?_)).mono ?_
      · intro ex F' h' E' a' w' hkx hs hT
        have fin : F'.df = [] → ((resultA P gn F' h').bind fun y => runDf P rec df y.2).holds K → a'.defers = [] ∧ ∃ v, (results gn a'.tmps).run P w' = .ok v w' ∧ ∃ v', Ending.returned v = .returned v' ∧ Leaves P fn tmps R ds' .returning w' := fun hdf hkx => by
          rw [RT.holds_bind] at hkx
          obtain ⟨r, v, k1, k2, k3⟩ := resultA_ok hkx hs.inv hT
          have hd0 := hT.df.2
          rw [hdf] at hd0
          exact ⟨hd0, v, k3, v, rfl, runDf_ok hng hrec k1 hs.inv (h3.mono hs.ext) fun h2 E2 w2 hk2 hs2 => hk h2 E2 w2 hk2 (hs.trans hs2)⟩
        cases ex with
        | exit id => exact hkx.elim
        | normal =>
          simp only at hkx
          split at hkx
          · rename_i e; cases e
          · rename_i _ hdf; exact fin (by first | exact hdf | assumption) hkx
          · exact hkx.elim
        | ret =>
          simp only at hkx
          split at hkx
          · rename_i e; cases e
          · rename_i _ hdf; exact fin (by first | exact hdf | assumption) hkx
          · exact hkx.elim
      · rintro e u' w' ⟨rfl, v, rfl, hl⟩
        exact hl
theorem bodyE_ok (hng : noGor P = true) {rec : FuncId → Code → Tm → Hp → RT Out} (hrec : ∀ g fn b, plainF P g = some (fn, b) → RecOk P b (rec g b)) {f : FuncId} {fn : Func} {b : Code} (hp : plainF P f = some (fn, b)) : SoundF P f (bodyE P rec f fn b) := by
  intro args h K H w0 G E w vals I hr
  unfold bodyE at H
  cases hle : Nat.ble args.length fn.ntmps
  · rw [hle] at H; exact H.elim
  rw [hle] at H
  simp only [cond_true] at H
  rw [RT.holds_bind] at H
  obtain ⟨hf, hb⟩ := plainF_ok hp
  refine calls_of_wp_defers hf hb (hrec f fn b hp _ _ _ H w0 G E w _ _ I (enterA_ok I.laid hr (Nat.le_of_ble_eq_true hle)) ?_)
  intro ex F' h' E' a' w' hk hs hT
  have fin : ((runDf P rec F'.df h').bind fun h => resultA P fn F' h).holds K → Leaves P fn a'.tmps (fun e w' => ∃ r h' v E', K (r, h') ∧ e = .returned v ∧ Stepd P w0 G E h w E' h' w' ∧ Rel E' r v) a'.defers .returning w' := fun hk => by
    rw [RT.holds_bind] at hk
    refine runDf_ok hng hrec hk hs.inv hT.df.2 fun h2 E2 w2 hk2 hs2 => ?_
    obtain ⟨r, v, k1, k2, k3⟩ := resultA_ok hk2 hs2.inv (hT.mono hs2.ext)
    exact ⟨v, k3, r, h2, v, E2, k1, rfl, hs.trans hs2, k2⟩
  cases ex with
  | normal => exact fin hk
  | ret => exact fin hk
  | exit id => exact hk.elim
theorem callE_ok (hng : noGor P = true) {n : Nat} (hc : CodeOk P Γ Λ n) (hΓ : GamOk P Γ) (hΛ : LamAll P Λ) : CallOk P (callE P Γ (evC P Γ Λ n)) := by
  intro g args h K H
  unfold callE at H
  split at H
  · exact H.elim
  · rename_i fn b hp
    refine ⟨⟨by rw [hp]; rfl, hng⟩, fun w0 G E w vals I hr => ?_⟩
    split at H
    · rename_i sp hsp
      exact hΓ g sp hsp args h K H w0 G E w vals I hr
    · exact bodyE_ok hng (fun g fn b hp F h K H => hc g b F h K H (hΛ g fn b hp)) hp args h K H w0 G E w vals I hr
theorem codeOk (hm : Fit P) (hΓ : GamOk P Γ) (hΛ : LamAll P Λ) : ∀ n, CodeOk P Γ Λ n ∧
    ∀ f b F h K, (evC P Γ Λ n f (.loop b) F h).holds K → LamOk P Λ f b → ∀ w0 G E w a Q, Inv P w0 G E h w → RelT E F a → Post P w0 G E h w K Q → Code.rounds P b Q n a w
  | 0 => ⟨fun f c F h K H => by unfold evC at H; exact H.elim, fun f b F h K H => by unfold evC at H; exact H.elim⟩
  | n + 1 => by
    obtain ⟨ihc, ihl⟩ := codeOk hm hΓ hΛ n
    have hcall := callE_ok hm.2 ihc hΓ hΛ
    have loop : ∀ f b F h K, (evC P Γ Λ (n + 1) f (.loop b) F h).holds K → LamOk P Λ f b → ∀ w0 G E w a Q, Inv P w0 G E h w → RelT E F a → Post P w0 G E h w K Q → Code.rounds P b Q (n + 1) a w := by
      intro f b F h K H hL w0 G E w a Q I hT hp
      unfold evC at H
      simp only at H
      rw [RT.holds_bind] at H
      rw [rounds_succ]
      refine ihc f b F h _ H hL w0 G E w a _ I hT ?_
      intro ex F' h' E' a' w' hk hs hT'
      cases ex with
      | normal => exact ihl f b F' h' K hk hL w0 G E' w' a' Q hs.inv hT' (hp.step hs)
      | exit id => exact hp _ _ _ _ _ _ hk hs hT'
      | ret => exact hp _ _ _ _ _ _ hk hs hT'
    refine ⟨fun f c F h K H hL w0 G E w a Q I hT hp => ?_, loop⟩
    cases c with
    | skip => unfold evC at H; exact wp_skip (hp _ _ _ _ _ _ H (Stepd.refl I) hT)
    | ret => unfold evC at H; exact wp_ret (hp _ _ _ _ _ _ H (Stepd.refl I) hT)
    | exit id => unfold evC at H; exact wp_exit (hp _ _ _ _ _ _ H (Stepd.refl I) hT)
    | region id ops draw =>
      cases draw with
      | false =>
        unfold evC at H
        simp only at H
        rw [RT.holds_bind] at H
        exact wp_region_list (evList_ok hcall _ H I hT fun F' h' E' a' w' hk hs hT' => hp _ _ _ _ _ _ hk hs hT')
      | true =>
        unfold evC at H
        simp only at H
        cases hqr : asRow P Λ f id ops
        case true =>
          rw [hqr] at H
          simp only [cond_true] at H
          rw [RT.holds_bind] at H
          have hq : quietR P ops = true := by
            unfold asRow at hqr
            split at hqr
            · cases hqr
            · exact hqr
          have hd := I.drew (w.drawn + 1)
          exact Go.wp_mono (Q := fun e a w => e = .normal ∧ Q .normal a w) (wp_region_any hm.1 (evReg_ok hcall hq H hd.inv hT fun F' h' E' a' w' hk hs hT' => ⟨rfl, hp _ _ _ _ _ _ hk (hd.trans hs) hT'⟩)) (fun e a w hq => by obtain ⟨rfl, hq⟩ := hq; exact hq)
        rw [hqr] at H
        simp only [cond_false] at H
        cases hla : asLate P Λ f id ops
        case true =>
          rw [hla] at H
          simp only [cond_true] at H
          rw [RT.holds_bind] at H
          have hd := I.drew (w.drawn + 1)
          exact Go.wp_mono (Q := fun e a w => e = .normal ∧ Q .normal a w) (wp_region_any hm.1 (wpL_any _ _ [] _ _ (evLateR_ok hcall (asLate_ok hla) (fun _ _ _ _ _ hq => by cases hq.1) H hd.inv hT fun F' h' E' a' w' hk hs hT' => ⟨rfl, hp _ _ _ _ _ _ hk (hd.trans hs) hT'⟩))) (fun e a w hq => by obtain ⟨rfl, hq⟩ := hq; exact hq)
        rw [hla] at H
        simp only [cond_false] at H
        cases hns : Region.noSelect ops
        · rw [hns] at H; exact H.elim
        rw [hns] at H
        simp only [cond_true] at H
        rw [RT.holds_bind] at H
        have hd := I.drew (w.drawn + 1)
        refine Go.wp_mono (Q := fun e a w => e = .normal ∧ Q .normal a w) (wp_region_any hm.1 (wpL_any _ _ [] _ _ (evDrawn_ok erOf_ok hcall hns (fun _ _ _ _ _ hq => by cases hq.1) _ H hd.inv hT .nil ?_))) (fun e a w hq => by obtain ⟨rfl, hq⟩ := hq; exact hq)
        exact fun F' h' E' a' w' hk hs hT' => ⟨rfl, hp _ _ _ _ _ _ hk (hd.trans hs) hT'⟩
    | seq x y =>
      unfold evC at H
      simp only at H
      rw [RT.holds_bind] at H
      refine wp_seq (ihc f x F h _ H (fun id sp hs c' hc' => hL id sp hs c' (List.mem_append_left _ hc')) w0 G E w a _ I hT ?_)
      intro ex F' h' E' a' w' hk hs hT'
      cases ex with
      | normal => exact ihc f y F' h' K hk (fun id sp hs c' hc' => hL id sp hs c' (List.mem_append_right _ hc')) w0 G E' w' a' Q hs.inv hT' (hp.step hs)
      | exit id => exact hp _ _ _ _ _ _ hk hs hT'
      | ret => exact hp _ _ _ _ _ _ hk hs hT'
    | cond c x y =>
      unfold evC at H
      simp only at H
      split at H
      · rename_i t
        split at H
        · rename_i kn b hl
          have hv := hT.tm t
          rw [hl] at hv
          have hev : a.eval (.tmp t) = .bool b := hv.1
          have hset := setA_ok hT hl
          rcases brk_holds H with ⟨rfl, H2⟩ | ⟨rfl, H2⟩
          · exact wp_cond_true hev (ihc f x _ h K H2 (fun id sp hs c' hc' => hL id sp hs c' (List.mem_append_left _ hc')) w0 G E w a Q I hset hp)
          · exact wp_cond_false hev (ihc f y _ h K H2 (fun id sp hs c' hc' => hL id sp hs c' (List.mem_append_right _ hc')) w0 G E w a Q I hset hp)
        · exact H.elim
      · exact wp_cond_true rfl (ihc f x F h K H (fun id sp hs c' hc' => hL id sp hs c' (List.mem_append_left _ hc')) w0 G E w a Q I hT hp)
      · exact wp_cond_false rfl (ihc f y F h K H (fun id sp hs c' hc' => hL id sp hs c' (List.mem_append_right _ hc')) w0 G E w a Q I hT hp)
      · exact H.elim
    | block id b =>
      unfold evC at H
      simp only at H
      split at H
      · rename_i sp hsp
        exact hL id sp hsp (.block id b) (by simp [blocksOf]) F h K H w0 G E w a Q I hT hp
      · rw [RT.holds_bind] at H
        refine wp_block (ihc f b F h _ H (fun i sp hs c' hc' => hL i sp hs c' (List.mem_append_right _ hc')) w0 G E w a _ I hT ?_)
        intro ex F' h' E' a' w' hk hs hT'
        cases ex with
        | normal => exact hp _ _ _ _ _ _ hk hs hT'
        | ret => exact hp _ _ _ _ _ _ hk hs hT'
        | exit j =>
          simp only at hk
          show Exit.inBlock id Q (.exit j) a' w'
          simp only [Exit.inBlock]
          cases hb : Nat.beq j id
          · rw [hb] at hk
            rw [if_neg (fun e => by rw [e] at hb; simp at hb)]
            exact hp _ _ _ _ _ _ hk hs hT'
          · rw [hb] at hk
            rw [if_pos (Nat.eq_of_beq_eq_true hb)]
            exact hp _ _ _ _ _ _ hk hs hT'
    | loop b => exact wp_loop_rounds (n + 1) (loop f b F h K H hL w0 G E w a Q I hT hp)
    | rangeFunc _ _ _ _ => unfold evC at H; exact H.elim
    | scope b =>
      unfold evC at H
      refine wp_scope_straight (ihc f b F h K H (fun i sp hs c' hc' => hL i sp hs c' hc') w0 G E w a _ I hT fun ex F' h' E' a' w' hk hs hT' => ?_)
      have := hp _ _ _ _ _ _ hk hs hT'
      cases ex <;> exact this
    | label _ => unfold evC at H; exact wp_label (hp _ _ _ _ _ _ H (Stepd.refl I) hT)
    | goto _ => unfold evC at H; exact H.elim
    | refuse _ => unfold evC at H; exact H.elim
/-- **a function is told right by its own code** -/
theorem evF_ok (hm : Fit P) (hΓ : GamOk P Γ) (hΛ : LamAll P Λ) (n : Nat) (f : FuncId) : SoundF P f (evF P Γ Λ n f) := by
  intro args h K H
  unfold evF at H
  split at H
  · exact H.elim
  · rename_i fn b hp
    exact bodyE_ok hm.2 (fun g fn b hp F h K H => (codeOk hm hΓ hΛ n).1 g b F h K H (hΛ g fn b hp)) hp args h K H
end
end
end Go.Proofs.YtokiedeiamlnlaaGreat
