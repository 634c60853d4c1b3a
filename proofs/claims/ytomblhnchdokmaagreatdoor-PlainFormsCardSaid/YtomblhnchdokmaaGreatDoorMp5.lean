/- Mp5: texts of this claim, one behind the other: EvA EvB EvC EvD EvE EvF EvG. No condition. -/
import Derived.Test.YtomblhnchdokmaaGreatDoorMp4
import Derived.Scope
namespace Go.Proofs.YtomblhnchdokmaaGreatDoor
set_option linter.unusedSimpArgs false
set_option linter.unusedVariables false
open Go.RowKit
set_option maxRecDepth 10000
noncomputable section

def Ex.to : Ex → Exit
  | .normal => .normal
  | .exit id => .exit id
  | .ret => .ret
def Post (P : Program) (w0 : World) (G : Nat → Prop) (E : Env) (h : Hp) (w : World) (K : Out → Prop) (Q : Exit → Act → World → Prop) : Prop :=
  ∀ ex F' h' E' a' w', K (ex, F', h') → Stepd P w0 G E h w E' h' w' → RelT E' F' a' → Q ex.to a' w'
theorem Post.step {P : Program} {w0 w w1 : World} {G : Nat → Prop} {E E1 : Env} {h h1 : Hp} {K : Out → Prop} {Q : Exit → Act → World → Prop} (hp : Post P w0 G E h w K Q) (hs : Stepd P w0 G E h w E1 h1 w1) : Post P w0 G E1 h1 w1 K Q :=
  fun ex F' h' E' a' w' hk hs' hT => hp ex F' h' E' a' w' hk (hs.trans hs') hT
/-- a block is told right -/
def BOk (P : Program) (c : Code) (sp : BSpec) : Prop := ∀ F h K, (sp F h).holds K → ∀ w0 G E w a Q, Inv P w0 G E h w → RelT E F a → Post P w0 G E h w K Q → c.wp P Q a w
def blocksOf (id : Nat) : Code → List Code
  | .seq a b => blocksOf id a ++ blocksOf id b
  | .cond _ a b => blocksOf id a ++ blocksOf id b
  | .block j b => (if j = id then [.block j b] else []) ++ blocksOf id b
  | .loop b => blocksOf id b
  | .scope b => blocksOf id b
  | _ => []
def LamOk (P : Program) (Λ : FuncId → Nat → Option BSpec) (f : FuncId) (c : Code) : Prop := ∀ id sp, Λ f id = some sp → ∀ c' ∈ blocksOf id c, BOk P c' sp
def LamAll (P : Program) (Λ : FuncId → Nat → Option BSpec) : Prop := ∀ f fn b, plainF P f = some (fn, b) → LamOk P Λ f b
/-- a function is told right -/
def SoundF (P : Program) (g : FuncId) (sp : Spec) : Prop := ∀ args h K, (sp args h).holds K → ∀ w0 G E w vals, Inv P w0 G E h w → RelL E args vals →
  Calls P g vals.toArray w fun e w' => ∃ r h' v E', K (r, h') ∧ e = .returned v ∧ Stepd P w0 G E h w E' h' w' ∧ Rel E' r v
def GamOk (P : Program) (Γ : FuncId → Option Spec) : Prop := ∀ g sp, Γ g = some sp → SoundF P g sp

section
variable {P : Program} {E : Env} {F : Tm} {h : Hp} {w w0 : World} {G : Nat → Prop} {a : Act} {Γ : FuncId → Option Spec} {Λ : FuncId → Nat → Option BSpec}

theorem Inv.drew (I : Inv P w0 G E h w) (n : Nat) : Stepd P w0 G E h w E h { w with drawn := n } :=
  ⟨Ext.refl E, ⟨⟨I.kpt.os, I.kpt.tape, I.kpt.output, I.kpt.size, I.kpt.block⟩, I.m, I.ng, I.gn, I.gnlt, I.live, I.nx, I.ob, I.own, I.inj, I.z, I.zob, I.vec, I.vinj, I.laid⟩, fun _ _ => ⟨Nat.le_refl _, fun _ => rfl⟩, fun _ _ _ hz => .inl hz⟩

theorem look_zip : ∀ (args : List AV) (s i : Nat), look i ((List.range' s args.length).zip args) = if s ≤ i ∧ i < s + args.length then (args[i - s]?).getD .any else .any
  | [], s, i => by simp [look_nil]
  | x :: args, s, i => by
    simp only [List.length_cons, List.range'_succ, List.zip_cons_cons, look_cons]
    rw [look_zip args (s + 1) i]
    cases hb : Nat.beq s i
    · have hne : s ≠ i := fun e => by rw [e] at hb; simp at hb
      simp only [cond_false]
      by_cases hc : s + 1 ≤ i ∧ i < s + 1 + args.length
      · rw [if_pos hc, if_pos ⟨by omega, by omega⟩, show i - s = (i - (s + 1)) + 1 by omega, List.getElem?_cons_succ]
      · rw [if_neg hc, if_neg (by omega)]
    · obtain rfl := Nat.eq_of_beq_eq_true hb
      simp
theorem enterA_ok (hlaid : Laid E) {fn : Func} {args : List AV} {vals : List Value} (hr : RelL E args vals) (hle : args.length ≤ fn.ntmps) : RelT E (enterA fn args) { tmps := vals.toArray ++ Array.replicate (fn.ntmps - vals.toArray.size) undef, defers := [] } := by
  have hl := hr.length
  refine ⟨by simp [enterA]; omega, fun i => ?_, hlaid, rfl⟩
  have hz := look_zip args 0 i
  rw [← List.range_eq_range'] at hz
  simp only [enterA]
  rw [hz]
  by_cases hi : i < args.length
  · rw [if_pos ⟨Nat.zero_le _, by omega⟩, Nat.sub_zero]
    obtain ⟨v, hv, hrv⟩ := hr.get (List.getElem?_eq_getElem hi)
    rw [List.getElem?_eq_getElem hi, Option.getD_some, Array.getD_eq_getD_getElem?, Array.getElem?_append_left (by simpa [← hl] using hi)]
    simpa [hv] using hrv
  · rw [if_neg (by omega)]; exact trivial
theorem run_loadAt_asAddr {t : TypeId} {v u : Value} (hl : (Instr.loadAt t v).run P w = .ok u w) : (do loadVar t (← asAddr v) : Sem Value).run P w = .ok u w := by
  cases v with
  | pointer ad =>
    cases ad with
    | some ad => simpa [Instr.loadAt, Instr.sureAddr, asAddr] using hl
    | none => simp [Instr.loadAt, Instr.sureAddr, stuck] at hl
  | _ => simp [Instr.loadAt, Instr.sureAddr, stuck] at hl
def rsOf (t : Array Value) : ResultVar → Sem Value
  | .tmp x => pure (t.getD x undef)
  | .cell x ty => do loadVar ty (← asAddr (t.getD x undef))
theorem resA_ok {K : List AV → Prop} : ∀ {rs : List ResultVar}, (resA P F h rs).holds K → Inv P w0 G E h w → RelT E F a → ∃ vs us, K vs ∧ RelL E vs us ∧
    (rs.mapM (m := Sem) (rsOf a.tmps)).run P w = .ok us w
  | [], H, _, _ => ⟨[], [], H, rfl, rfl⟩
  | .tmp t :: rs, H, I, hT => by
    simp only [resA] at H
    rw [RT.holds_bind] at H
    obtain ⟨vs, us, h1, h2, h3⟩ := resA_ok H I hT
    refine ⟨_, a.tmps.getD t undef :: us, h1, ⟨_, _, rfl, hT.tm t, h2⟩, ?_⟩
    simp only [List.mapM_cons, rsOf, Sem.run_bind, Sem.run_pure, Result.andThen_ok, h3]
  | .cell x t :: rs, H, I, hT => by
    simp only [resA] at H
    rw [RT.holds_bind] at H
    obtain ⟨av, u, g1, g2, g3⟩ := loadA_ok H I (hT.tm x)
    rw [RT.holds_bind] at g1
    obtain ⟨vs, us, h1, h2, h3⟩ := resA_ok g1 I hT
    refine ⟨_, u :: us, h1, ⟨_, _, rfl, g3, h2⟩, ?_⟩
    have := run_loadAt_asAddr (g2 w (I.sees _))
    simp only [Sem.run_bind] at this
    simp only [List.mapM_cons, rsOf, Sem.run_bind, this, Sem.run_pure, Result.andThen_ok, h3]
theorem resultA_ok {K : AV × Hp → Prop} {fn : Func} (H : (resultA P fn F h).holds K) (I : Inv P w0 G E h w) (hT : RelT E F a) : ∃ r v, K (r, h) ∧ Rel E r v ∧ (results fn a.tmps).run P w = .ok v w := by
  unfold resultA at H
  rw [RT.holds_bind] at H
  obtain ⟨vs, us, h1, h2, h3⟩ := resA_ok H I hT
  have hres : (results fn a.tmps).run P w = .ok (if h : us.toArray.size = 1 then us.toArray[0] else .tuple us.toArray) w := by
    show (do let vs ← fn.results.mapM (rsOf a.tmps); pure (if h : vs.size = 1 then vs[0] else .tuple vs) : Sem Value).run P w = _
    rw [Array.mapM_eq_mapM_toList]
    have : (List.toArray <$> List.mapM (m := Sem) (rsOf a.tmps) fn.results.toList).run P w = .ok us.toArray w := by
      show (List.mapM (m := Sem) (rsOf a.tmps) fn.results.toList >>= fun l => pure l.toArray : Sem _).run P w = _
      rw [Sem.run_bind, h3]
      rfl
    rw [Sem.run_bind, this]
    rfl
  split at h1
  · rename_i av
    obtain ⟨u, us', rfl, g1, g2⟩ := h2
    have g2' : us' = [] := g2
    subst g2'
    exact ⟨av, u, h1, g1, by rw [hres]; simp⟩
  · rename_i hne
    refine ⟨.tup vs, .tuple us.toArray, h1, ⟨_, rfl, by simpa using h2⟩, ?_⟩
    rw [hres]
    have hl := h2.length
    rw [dif_neg]
    intro h0
    have : vs.length = 1 := by rw [hl]; simpa using h0
    obtain ⟨x, rfl⟩ := List.length_eq_one_iff.1 this
    exact hne x rfl

theorem plainF_ok {f : FuncId} {fn : Func} {b : Code} (hp : plainF P f = some (fn, b)) : P.funcs[f]? = some fn ∧ fn.body = some b := by
  unfold plainF at hp
  split at hp
  · rename_i fn' hf
    split at hp
    · rename_i c hc
      cases hp; exact ⟨hf, hc⟩
    · cases hp
  · cases hp
/-- code, at a depth -/
def CodeOk (P : Program) (Γ : FuncId → Option Spec) (Λ : FuncId → Nat → Option BSpec) (n : Nat) : Prop := ∀ f c F h K, (evC P Γ Λ n f c F h).holds K → LamOk P Λ f c → ∀ w0 G E w a Q, Inv P w0 G E h w → RelT E F a → Post P w0 G E h w K Q → c.wp P Q a w
/-- what a piece of code does -/
def RecOk (P : Program) (b : Code) (T : Tm → Hp → RT Out) : Prop := ∀ F h K, (T F h).holds K → ∀ w0 G E w a Q, Inv P w0 G E h w → RelT E F a → Post P w0 G E h w K Q → b.wp P Q a w
theorem runDf_ok (hng : noGor P = true) {rec : FuncId → Code → Tm → Hp → RT Out} {fn : Func} {tmps : Array Value} {R : Ending → World → Prop} (hrec : ∀ g fn b, plainF P g = some (fn, b) → RecOk P b (rec g b)) : ∀ {df : List (FuncId × List AV)} {ds : List Deferred} {K : Hp → Prop} {E : Env} {h : Hp} {w : World},
    (runDf P rec df h).holds K → Inv P w0 G E h w → RelD E df ds → (∀ h' E' w', K h' → Stepd P w0 G E h w E' h' w' → ∃ v, (results fn tmps).run P w' = .ok v w' ∧ R (.returned v) w') → Leaves P fn tmps R ds .returning w
  | [], ds, K, E, h, w, H, I, hD, hk => by
    have : ds = [] := hD
    subst this
    exact hk h E w H (Stepd.refl I)
  | (g, args) :: df, ds, K, E, h, w, H, I, ⟨cap, av, ds', h1, h2, h3⟩, hk => by
    subst h1
    unfold runDf at H
    split at H
    · exact H.elim
    rename_i gn b hp
    cases hle : Nat.ble args.length gn.ntmps
    · rw [hle] at H; exact H.elim
    rw [hle] at H
    simp only [cond_true] at H
    rw [RT.holds_bind] at H
    obtain ⟨hf, hb⟩ := plainF_ok hp
    refine leaves_cons (f := g) (args := (av.toList ++ cap.toList).toArray) (by simp) ?_ ?_
    · have harr : av ++ cap = (av.toList ++ cap.toList).toArray := by apply Array.ext'; simp
      simp only [invoke]
      rw [callFunc_plain ⟨by rw [hp]; rfl, hng⟩, harr]
    · refine (callsD_of_wp (R := fun e w' => ∃ v, e = .returned v ∧ Leaves P fn tmps R ds' .returning w') hf hb (hrec g gn b hp _ _ _ H w0 G E w _ _ I (enterA_ok I.laid h2 (Nat.le_of_ble_eq_true hle)) ?_)).mono ?_
      · intro ex F' h' E' a' w' hkx hs hT
        have fin : F'.df = [] → ((resultA P gn F' h').bind fun y => runDf P rec df y.2).holds K → a'.defers = [] ∧ ∃ v, (results gn a'.tmps).run P w' = .ok v w' ∧ ∃ v', Ending.returned v = .returned v' ∧ Leaves P fn tmps R ds' .returning w' := fun hdf hkx => by
          rw [RT.holds_bind] at hkx
          obtain ⟨r, v, k1, k2, k3⟩ := resultA_ok hkx hs.inv hT
          have hd0 := hT.df.2
          rw [hdf] at hd0
          exact ⟨hd0, v, k3, v, rfl, runDf_ok hng hrec k1 hs.inv (h3.mono hs.ext) fun h2 E2 w2 hk2 hs2 => hk h2 E2 w2 hk2 (hs.trans hs2)⟩
        cases ex with
        | exit id => exact hkx.elim
        | normal =>
          simp only at hkx
          split at hkx
          · rename_i e; cases e
          · rename_i _ hdf; exact fin (by first | exact hdf | assumption) hkx
          · exact hkx.elim
        | ret =>
          simp only at hkx
          split at hkx
          · rename_i e; cases e
          · rename_i _ hdf; exact fin (by first | exact hdf | assumption) hkx
          · exact hkx.elim
      · rintro e u' w' ⟨rfl, v, rfl, hl⟩
        exact hl
theorem bodyE_ok (hng : noGor P = true) {rec : FuncId → Code → Tm → Hp → RT Out} (hrec : ∀ g fn b, plainF P g = some (fn, b) → RecOk P b (rec g b)) {f : FuncId} {fn : Func} {b : Code} (hp : plainF P f = some (fn, b)) : SoundF P f (bodyE P rec f fn b) := by
  intro args h K H w0 G E w vals I hr
  unfold bodyE at H
  cases hle : Nat.ble args.length fn.ntmps
  · rw [hle] at H; exact H.elim
  rw [hle] at H
  simp only [cond_true] at H
  rw [RT.holds_bind] at H
  obtain ⟨hf, hb⟩ := plainF_ok hp
  refine calls_of_wp_defers hf hb (hrec f fn b hp _ _ _ H w0 G E w _ _ I (enterA_ok I.laid hr (Nat.le_of_ble_eq_true hle)) ?_)
  intro ex F' h' E' a' w' hk hs hT
  have fin : ((runDf P rec F'.df h').bind fun h => resultA P fn F' h).holds K → Leaves P fn a'.tmps (fun e w' => ∃ r h' v E', K (r, h') ∧ e = .returned v ∧ Stepd P w0 G E h w E' h' w' ∧ Rel E' r v) a'.defers .returning w' := fun hk => by
    rw [RT.holds_bind] at hk
    refine runDf_ok hng hrec hk hs.inv hT.df.2 fun h2 E2 w2 hk2 hs2 => ?_
    obtain ⟨r, v, k1, k2, k3⟩ := resultA_ok hk2 hs2.inv (hT.mono hs2.ext)
    exact ⟨v, k3, r, h2, v, E2, k1, rfl, hs.trans hs2, k2⟩
  cases ex with
  | normal => exact fin hk
  | ret => exact fin hk
  | exit id => exact hk.elim
theorem callE_ok (hng : noGor P = true) {n : Nat} (hc : CodeOk P Γ Λ n) (hΓ : GamOk P Γ) (hΛ : LamAll P Λ) : CallOk P (callE P Γ (evC P Γ Λ n)) := by
  intro g args h K H
  unfold callE at H
  split at H
  · exact H.elim
  · rename_i fn b hp
    refine ⟨⟨by rw [hp]; rfl, hng⟩, fun w0 G E w vals I hr => ?_⟩
    split at H
    · rename_i sp hsp
      exact hΓ g sp hsp args h K H w0 G E w vals I hr
    · exact bodyE_ok hng (fun g fn b hp F h K H => hc g b F h K H (hΛ g fn b hp)) hp args h K H w0 G E w vals I hr
theorem codeOk (hm : Fit P) (hΓ : GamOk P Γ) (hΛ : LamAll P Λ) : ∀ n, CodeOk P Γ Λ n ∧
    ∀ f b F h K, (evC P Γ Λ n f (.loop b) F h).holds K → LamOk P Λ f b → ∀ w0 G E w a Q, Inv P w0 G E h w → RelT E F a → Post P w0 G E h w K Q → Code.rounds P b Q n a w
  | 0 => ⟨fun f c F h K H => by unfold evC at H; exact H.elim, fun f b F h K H => by unfold evC at H; exact H.elim⟩
  | n + 1 => by
    obtain ⟨ihc, ihl⟩ := codeOk hm hΓ hΛ n
    have hcall := callE_ok hm.2 ihc hΓ hΛ
    have loop : ∀ f b F h K, (evC P Γ Λ (n + 1) f (.loop b) F h).holds K → LamOk P Λ f b → ∀ w0 G E w a Q, Inv P w0 G E h w → RelT E F a → Post P w0 G E h w K Q → Code.rounds P b Q (n + 1) a w := by
      intro f b F h K H hL w0 G E w a Q I hT hp
      unfold evC at H
      simp only at H
      rw [RT.holds_bind] at H
      rw [rounds_succ]
      refine ihc f b F h _ H hL w0 G E w a _ I hT ?_
      intro ex F' h' E' a' w' hk hs hT'
      cases ex with
      | normal => exact ihl f b F' h' K hk hL w0 G E' w' a' Q hs.inv hT' (hp.step hs)
      | exit id => exact hp _ _ _ _ _ _ hk hs hT'
      | ret => exact hp _ _ _ _ _ _ hk hs hT'
    refine ⟨fun f c F h K H hL w0 G E w a Q I hT hp => ?_, loop⟩
    cases c with
    | skip => unfold evC at H; exact wp_skip (hp _ _ _ _ _ _ H (Stepd.refl I) hT)
    | ret => unfold evC at H; exact wp_ret (hp _ _ _ _ _ _ H (Stepd.refl I) hT)
    | exit id => unfold evC at H; exact wp_exit (hp _ _ _ _ _ _ H (Stepd.refl I) hT)
    | region id ops draw =>
      cases draw with
      | false =>
        unfold evC at H
        simp only at H
        rw [RT.holds_bind] at H
        exact wp_region_list (evList_ok hcall _ H I hT fun F' h' E' a' w' hk hs hT' => hp _ _ _ _ _ _ hk hs hT')
      | true =>
        unfold evC at H
        simp only at H
        cases hqr : asRow P Λ f id ops
        case true =>
          rw [hqr] at H
          simp only [cond_true] at H
          rw [RT.holds_bind] at H
          have hq : quietR P ops = true := by
            unfold asRow at hqr
            split at hqr
            · cases hqr
            · exact hqr
          have hd := I.drew (w.drawn + 1)
          exact Go.wp_mono (Q := fun e a w => e = .normal ∧ Q .normal a w) (wp_region_any hm.1 (evReg_ok hcall hq H hd.inv hT fun F' h' E' a' w' hk hs hT' => ⟨rfl, hp _ _ _ _ _ _ hk (hd.trans hs) hT'⟩)) (fun e a w hq => by obtain ⟨rfl, hq⟩ := hq; exact hq)
        rw [hqr] at H
        simp only [cond_false] at H
        cases hla : asLate P Λ f id ops
        case true =>
          rw [hla] at H
          simp only [cond_true] at H
          rw [RT.holds_bind] at H
          have hd := I.drew (w.drawn + 1)
          exact Go.wp_mono (Q := fun e a w => e = .normal ∧ Q .normal a w) (wp_region_any hm.1 (wpL_any _ _ [] _ _ (evLateR_ok hcall (asLate_ok hla) (fun _ _ _ _ _ hq => by cases hq.1) H hd.inv hT fun F' h' E' a' w' hk hs hT' => ⟨rfl, hp _ _ _ _ _ _ hk (hd.trans hs) hT'⟩))) (fun e a w hq => by obtain ⟨rfl, hq⟩ := hq; exact hq)
        rw [hla] at H
        simp only [cond_false] at H
        cases hns : Region.noSelect ops
        · rw [hns] at H; exact H.elim
        rw [hns] at H
        simp only [cond_true] at H
        rw [RT.holds_bind] at H
        have hd := I.drew (w.drawn + 1)
        refine Go.wp_mono (Q := fun e a w => e = .normal ∧ Q .normal a w) (wp_region_any hm.1 (wpL_any _ _ [] _ _ (evDrawn_ok erOf_ok hcall hns (fun _ _ _ _ _ hq => by cases hq.1) _ H hd.inv hT .nil ?_))) (fun e a w hq => by obtain ⟨rfl, hq⟩ := hq; exact hq)
        exact fun F' h' E' a' w' hk hs hT' => ⟨rfl, hp _ _ _ _ _ _ hk (hd.trans hs) hT'⟩
    | seq x y =>
      unfold evC at H
      simp only at H
      rw [RT.holds_bind] at H
      refine wp_seq (ihc f x F h _ H (fun id sp hs c' hc' => hL id sp hs c' (List.mem_append_left _ hc')) w0 G E w a _ I hT ?_)
      intro ex F' h' E' a' w' hk hs hT'
      cases ex with
      | normal => exact ihc f y F' h' K hk (fun id sp hs c' hc' => hL id sp hs c' (List.mem_append_right _ hc')) w0 G E' w' a' Q hs.inv hT' (hp.step hs)
      | exit id => exact hp _ _ _ _ _ _ hk hs hT'
      | ret => exact hp _ _ _ _ _ _ hk hs hT'
    | cond c x y =>
      unfold evC at H
      simp only at H
      split at H
      · rename_i t
        split at H
        · rename_i kn b hl
          have hv := hT.tm t
          rw [hl] at hv
          have hev : a.eval (.tmp t) = .bool b := hv.1
          have hset := setA_ok hT hl
          rcases brk_holds H with ⟨rfl, H2⟩ | ⟨rfl, H2⟩
          · exact wp_cond_true hev (ihc f x _ h K H2 (fun id sp hs c' hc' => hL id sp hs c' (List.mem_append_left _ hc')) w0 G E w a Q I hset hp)
          · exact wp_cond_false hev (ihc f y _ h K H2 (fun id sp hs c' hc' => hL id sp hs c' (List.mem_append_right _ hc')) w0 G E w a Q I hset hp)
        · exact H.elim
      · exact wp_cond_true rfl (ihc f x F h K H (fun id sp hs c' hc' => hL id sp hs c' (List.mem_append_left _ hc')) w0 G E w a Q I hT hp)
      · exact wp_cond_false rfl (ihc f y F h K H (fun id sp hs c' hc' => hL id sp hs c' (List.mem_append_right _ hc')) w0 G E w a Q I hT hp)
      · exact H.elim
    | block id b =>
      unfold evC at H
      simp only at H
      split at H
      · rename_i sp hsp
        exact hL id sp hsp (.block id b) (by simp [blocksOf]) F h K H w0 G E w a Q I hT hp
      · rw [RT.holds_bind] at H
        refine wp_block (ihc f b F h _ H (fun i sp hs c' hc' => hL i sp hs c' (List.mem_append_right _ hc')) w0 G E w a _ I hT ?_)
        intro ex F' h' E' a' w' hk hs hT'
        cases ex with
        | normal => exact hp _ _ _ _ _ _ hk hs hT'
        | ret => exact hp _ _ _ _ _ _ hk hs hT'
        | exit j =>
          simp only at hk
          show Exit.inBlock id Q (.exit j) a' w'
          simp only [Exit.inBlock]
          cases hb : Nat.beq j id
          · rw [hb] at hk
            rw [if_neg (fun e => by rw [e] at hb; simp at hb)]
            exact hp _ _ _ _ _ _ hk hs hT'
          · rw [hb] at hk
            rw [if_pos (Nat.eq_of_beq_eq_true hb)]
            exact hp _ _ _ _ _ _ hk hs hT'
    | loop b => exact wp_loop_rounds (n + 1) (loop f b F h K H hL w0 G E w a Q I hT hp)
    | rangeFunc _ _ _ _ => unfold evC at H; exact H.elim
    | scope b =>
      unfold evC at H
      refine wp_scope_straight (ihc f b F h K H (fun i sp hs c' hc' => hL i sp hs c' hc') w0 G E w a _ I hT fun ex F' h' E' a' w' hk hs hT' => ?_)
      have := hp _ _ _ _ _ _ hk hs hT'
      cases ex <;> exact this
    | label _ => unfold evC at H; exact wp_label (hp _ _ _ _ _ _ H (Stepd.refl I) hT)
    | goto _ => unfold evC at H; exact H.elim
    | refuse _ => unfold evC at H; exact H.elim
/-- **a function is told right by its own code** -/
theorem evF_ok (hm : Fit P) (hΓ : GamOk P Γ) (hΛ : LamAll P Λ) (n : Nat) (f : FuncId) : SoundF P f (evF P Γ Λ n f) := by
  intro args h K H
  unfold evF at H
  split at H
  · exact H.elim
  · rename_i fn b hp
    exact bodyE_ok hm.2 (fun g fn b hp F h K H => (codeOk hm hΓ hΛ n).1 g b F h K H (hΛ g fn b hp)) hp args h K H
end
end
end Go.Proofs.YtomblhnchdokmaaGreatDoor

namespace Go.Proofs.YtomblhnchdokmaaGreatDoor
set_option linter.unusedSimpArgs false
set_option linter.unusedVariables false
open Go.RowKit
set_option maxRecDepth 10000
noncomputable section

def ix (o : Nat) : List Nat → Nat → Option Nat
  | [], _ => none
  | k :: r, i => bif Nat.beq k o then some i else ix o r (i + 1)
theorem ix_some : ∀ {l : List Nat} {o s i : Nat}, ix o l s = some i → s ≤ i ∧ l[i - s]? = some o
  | [], _, _, _, h => by cases h
  | k :: r, o, s, i, h => by
    simp only [ix] at h
    cases hb : Nat.beq k o
    · rw [hb] at h
      obtain ⟨h1, h2⟩ := ix_some (l := r) h
      refine ⟨by omega, ?_⟩
      rw [show i - s = (i - (s + 1)) + 1 by omega]
      simpa using h2
    · rw [hb] at h
      cases h
      obtain rfl := Nat.eq_of_beq_eq_true hb
      simp
mutual
/-- a value under the new names: objects os, slices ks (their new stamps: g0 + j) -/
def ren (os ks : List Nat) (g0 : Nat) (gn : List (Nat × Nat × TypeId)) : AV → AV
  | .ptr o off => match ix o os 0 with | some i => .ptr i off | none => .any
  | .mp o => match ix o os 0 with | some i => .mp i | none => .any
  | .sl kn es d (some (k, g)) => match ix k ks 0, lookG k gn with
    | some j, some (g', _) => bif Nat.beq g g' then .sl kn es d (some (j, g0 + j)) else .sl kn es d none
    | _, _ => .sl kn es d none
  | .fn f a c => .fn f (renL os ks g0 gn a) (renL os ks g0 gn c)
  | .agg cs => .agg (renL os ks g0 gn cs)
  | .tup vs => .tup (renL os ks g0 gn vs)
  | .sl kn es d none => .sl kn es d none
  | .any => .any
  | .sc kn v => .sc kn v
  | .ep kn es d j => .ep kn es d j
  | .rsl kn o n len => match ix o os 0 with | some i => .rsl kn i n len | none => .any
  | .rp kn o n i j => match ix o os 0 with | some q => .rp kn q n i j | none => .any
  | .rw es d => .rw es d
  | .vsl _ _ _ _ _ => .any
  | .al _ _ _ _ => .any
  | .ea _ => .any
def renL (os ks : List Nat) (g0 : Nat) (gn : List (Nat × Nat × TypeId)) : List AV → List AV
  | [] => []
  | x :: xs => ren os ks g0 gn x :: renL os ks g0 gn xs
end
def obR (os ks : List Nat) (g0 : Nat) (h : Hp) : List Nat → Nat → List (Nat × List AV)
  | [], _ => []
  | o :: r, i => match lookO o h.ob with
    | some cs => (i, renL os ks g0 h.gn cs) :: obR os ks g0 h r (i + 1)
    | none => obR os ks g0 h r (i + 1)
def gnR (g0 : Nat) (gn : List (Nat × Nat × TypeId)) : List Nat → Nat → List (Nat × Nat × TypeId)
  | [], _ => []
  | k :: r, j => match lookG k gn with
    | some (_, e) => (j, g0 + j, e) :: gnR g0 gn r (j + 1)
    | none => gnR g0 gn r (j + 1)
def Hp.ren (h : Hp) (os ks : List Nat) (g0 ep : Nat) : Hp := ⟨obR os ks g0 h os 0, os.length, gnR g0 h.gn ks 0, ks.length, g0 + ks.length, ep⟩
def Env.ren (E : Env) (os ks : List Nat) (g0 : Nat) : Env :=
  { β := fun i => E.β (os.getD i 0), live := fun i => ∃ o, os[i]? = some o ∧ E.live o, Z := E.Z, vc := fun j => E.vc (ks.getD j 0), gn := fun j => g0 + j, ve := fun j => E.ve (ks.getD j 0), m := ks.length, ng := g0 + ks.length, yl := E.yl }

section
variable {P : Program} {E : Env} {h : Hp} {w w0 : World} {G : Nat → Prop} {os ks : List Nat} {g0 : Nat}
mutual
theorem ren_rel (I : Inv P w0 G E h w) : ∀ (x : AV) (v : Value), Rel E x v → Rel (E.ren os ks g0) (ren os ks g0 h.gn x) v
  | .any, _, _ => trivial
  | .sc _ _, _, H => H
  | .ep _ _ _ _, _, H => H
  | .rw _ _, _, H => H
  | .vsl _ _ _ _ _, _, _ => trivial
  | .al _ _ _ _, _, _ => trivial
  | .ea _, _, _ => trivial
  | .rsl kn o n len, v, ⟨hl, ad, cap, g1, g2, g3, g4, g5⟩ => by
    simp only [ren]
    split
    · rename_i i hi
      obtain ⟨_, h1⟩ := ix_some hi
      simp only [Nat.sub_zero] at h1
      refine ⟨⟨o, h1, hl⟩, ad, cap, g1, g2, g3, g4, fun hn => ?_⟩
      simp only [Env.ren, List.getD_eq_getElem?_getD, h1, Option.getD_some]
      exact g5 hn
    · exact trivial
  | .rp kn o n i j, v, ⟨hl, hv⟩ => by
    simp only [ren]
    split
    · rename_i q hi
      obtain ⟨_, h1⟩ := ix_some hi
      simp only [Nat.sub_zero] at h1
      refine ⟨⟨o, h1, hl⟩, ?_⟩
      simp only [Env.ren, List.getD_eq_getElem?_getD, h1, Option.getD_some]
      exact hv
    · exact trivial
  | .ptr o off, v, ⟨hl, hv⟩ => by
    simp only [ren]
    split
    · rename_i i hi
      obtain ⟨_, h1⟩ := ix_some hi
      simp only [Nat.sub_zero] at h1
      refine ⟨⟨o, h1, hl⟩, ?_⟩
      simp only [Env.ren, List.getD_eq_getElem?_getD, h1, Option.getD_some]
      exact hv
    · exact trivial
  | .mp o, v, ⟨hl, hv⟩ => by
    simp only [ren]
    split
    · rename_i i hi
      obtain ⟨_, h1⟩ := ix_some hi
      simp only [Nat.sub_zero] at h1
      refine ⟨⟨o, h1, hl⟩, ?_⟩
      simp only [Env.ren, List.getD_eq_getElem?_getD, h1, Option.getD_some]
      exact hv
    · exact trivial
  | .sl kn es d none, v, H => H
  | .sl kn es d (some (k, g)), v, ⟨h1, hk, hg, hc⟩ => by
    simp only [ren]
    have hno : Rel (E.ren os ks g0) (.sl kn es d none) v := ⟨h1, trivial⟩
    split
    · rename_i j g' e hj hl
      cases hb : Nat.beq g g'
      · exact hno
      · obtain rfl := Nat.eq_of_beq_eq_true hb
        obtain ⟨_, h2⟩ := ix_some hj
        simp only [Nat.sub_zero] at h2
        have hjl := (List.getElem?_eq_some_iff.1 h2).1
        have hgn := (I.gn k (by rw [← I.m]; exact hk)).symm.trans hl
        injection hgn with hgn
        have hg1 : E.gn k = g := congrArg Prod.fst hgn
        refine ⟨h1, hjl, by show g0 + j < g0 + ks.length; omega, fun _ => ?_⟩
        simp only [Env.ren, List.getD_eq_getElem?_getD, h2, Option.getD_some]
        exact hc hg1
    · exact hno
  | .fn f a c, v, ⟨a', c', h1, h2, h3⟩ => ⟨a', c', h1, ren_relL I a _ h2, ren_relL I c _ h3⟩
  | .agg cs, v, ⟨cs', h1, h2, h3⟩ => ⟨cs', h1, ren_relL I cs _ h2, h3⟩
  | .tup vs, v, ⟨vs', h1, h2⟩ => ⟨vs', h1, ren_relL I vs _ h2⟩
theorem ren_relL (I : Inv P w0 G E h w) : ∀ (xs : List AV) (vs : List Value), RelL E xs vs → RelL (E.ren os ks g0) (renL os ks g0 h.gn xs) vs
  | [], _, H => H
  | x :: xs, _, ⟨v, vs', h1, h2, h3⟩ => ⟨v, vs', h1, ren_rel I x v h2, ren_relL I xs vs' h3⟩
end
theorem lookO_obR : ∀ (l : List Nat) (s i : Nat), lookO i (obR os ks g0 h l s) = if s ≤ i then (match l[i - s]? with | some o => (lookO o h.ob).map (renL os ks g0 h.gn) | none => none) else none
  | [], s, i => by simp [obR, lookO_nil]
  | o :: r, s, i => by
    have ih := lookO_obR r (s + 1) i
    have tail : s ≠ i → (if s + 1 ≤ i then (match r[i - (s + 1)]? with | some o => (lookO o h.ob).map (renL os ks g0 h.gn) | none => none) else none) = if s ≤ i then (match (o :: r)[i - s]? with | some o => (lookO o h.ob).map (renL os ks g0 h.gn) | none => none) else none := fun hne => by
      by_cases hs : s + 1 ≤ i
      · rw [if_pos hs, if_pos (by omega), show i - s = (i - (s + 1)) + 1 by omega, List.getElem?_cons_succ]
      · rw [if_neg hs, if_neg (by omega)]
    simp only [obR]
    split
    · rename_i cs hcs
      rw [lookO_cons]
      by_cases e : s = i
      · subst e; simp [hcs]
      · rw [if_neg e, ih, tail e]
    · rename_i hcs
      rw [ih]
      by_cases e : s = i
      · subst e; rw [if_neg (by omega), if_pos (Nat.le_refl _)]; simp [hcs]
      · rw [tail e]
theorem lookG_gnR {gn : List (Nat × Nat × TypeId)} : ∀ (l : List Nat) (s j : Nat), lookG j (gnR g0 gn l s) = if s ≤ j then (match l[j - s]? with | some k => (lookG k gn).map (fun p => (g0 + j, p.2)) | none => none) else none
  | [], s, j => by simp [gnR, lookG_nil]
  | k :: r, s, j => by
    have ih := lookG_gnR (gn := gn) r (s + 1) j
    have tail : s ≠ j → (if s + 1 ≤ j then (match r[j - (s + 1)]? with | some k => (lookG k gn).map (fun p => (g0 + j, p.2)) | none => none) else none) = if s ≤ j then (match (k :: r)[j - s]? with | some k => (lookG k gn).map (fun p => (g0 + j, p.2)) | none => none) else none := fun hne => by
      by_cases hs : s + 1 ≤ j
      · rw [if_pos hs, if_pos (by omega), show j - s = (j - (s + 1)) + 1 by omega, List.getElem?_cons_succ]
      · rw [if_neg hs, if_neg (by omega)]
    simp only [gnR]
    split
    · rename_i g e hk
      rw [lookG_cons]
      by_cases e : s = j
      · subst e; simp [hk]
      · rw [if_neg e, ih, tail e]
    · rename_i hk
      rw [ih]
      by_cases e : s = j
      · subst e; rw [if_neg (by omega), if_pos (Nat.le_refl _)]; simp [hk]
      · rw [tail e]
/-- the part of the heap that has new names -/
theorem Inv.ren (I : Inv P w0 G E h w) (ho : os.Nodup) (hk : ks.Nodup) (hkl : ∀ k ∈ ks, k < h.nv) (ep : Nat) : Inv P w0 G (E.ren os ks g0) (h.ren os ks g0 ep) w := by
  have key : ∀ {l : List Nat} {i : Nat}, i < l.length → ∃ o, l[i]? = some o ∧ l.getD i 0 = o ∧ o ∈ l := fun {l i} hi => ⟨l[i], List.getElem?_eq_getElem hi, by rw [List.getD_eq_getElem?_getD, List.getElem?_eq_getElem hi]; rfl, List.getElem_mem hi⟩
  have gd : ∀ {l : List Nat} {i o : Nat}, l[i]? = some o → l.getD i 0 = o := fun {l i o} hi => by rw [List.getD_eq_getElem?_getD, hi]; rfl
  have ndo : ∀ {l : List Nat}, l.Nodup → ∀ {i j o : Nat}, l[i]? = some o → l[j]? = some o → i = j := fun {l} hl {i j o} h1 h2 => by
    have hi := (List.getElem?_eq_some_iff.1 h1).1
    exact (List.getElem?_inj hi hl).1 (h1.trans h2.symm)
  refine ⟨I.kpt, rfl, rfl, fun j hj => ?_, fun j hj => ?_, fun i => ?_, fun i hi => ?_, fun i cs hcs => ?_, fun i hi => ?_, fun i i' hi hi' e => ?_, I.z, fun i j hi => ?_, fun j hj => ?_, fun j j' b hj hj' hb hb' => ?_, I.laid⟩
  · have hjl : j < ks.length := hj
    obtain ⟨k, h1, h2, h3⟩ := key hjl
    have h4 : lookG j (gnR g0 h.gn ks 0) = some (g0 + j, E.ve k) := by
      rw [lookG_gnR]
      simp [h1, I.gn k (hkl k h3)]
    simpa [Hp.ren, Env.ren, List.getD_eq_getElem?_getD, h1] using h4
  · have hjl : j < ks.length := hj
    show g0 + j < g0 + ks.length
    omega
  · show (∃ o, os[i]? = some o ∧ E.live o) ↔ (lookO i (obR os ks g0 h os 0)).isSome = true
    rw [lookO_obR]
    simp only [Nat.zero_le, if_true, Nat.sub_zero]
    cases hi : os[i]? with
    | none => simp
    | some o => simp [I.live o]
  · obtain ⟨o, h1, _⟩ := hi
    exact (List.getElem?_eq_some_iff.1 h1).1
  · have hcs' : lookO i (obR os ks g0 h os 0) = some cs := hcs
    rw [lookO_obR] at hcs'
    simp only [Nat.zero_le, if_true, Nat.sub_zero] at hcs'
    cases hi : os[i]? with
    | none => rw [hi] at hcs'; cases hcs'
    | some o =>
      rw [hi] at hcs'
      cases hc : lookO o h.ob with
      | none => simp [hc] at hcs'
      | some cs0 =>
        simp only [hc, Option.map_some, Option.some.injEq] at hcs'
        subst hcs'
        obtain ⟨vs, t, g1, g2, g3⟩ := I.ob o cs0 hc
        refine ⟨vs, t, ?_, ren_relL I _ _ g2, g3⟩
        show w.heap[E.β (os.getD i 0)]? = _
        rw [gd hi]; exact g1
  · obtain ⟨o, h1, h2⟩ := hi
    show w0.heap.size ≤ E.β (os.getD i 0) ∨ G (E.β (os.getD i 0))
    rw [gd h1]; exact I.own o h2
  · obtain ⟨o, h1, h2⟩ := hi
    obtain ⟨o', h1', h2'⟩ := hi'
    have e' : E.β (os.getD i 0) = E.β (os.getD i' 0) := e
    rw [gd h1, gd h1'] at e'
    obtain rfl := I.inj o o' h2 h2' e'
    exact ndo ho h1 h1'
  · obtain ⟨o, h1, h2⟩ := hi
    show E.Z (E.β (os.getD i 0)) j = none
    rw [gd h1]; exact I.zob o j h2
  · have hjl : j < ks.length := hj
    obtain ⟨k, h1, h2, h3⟩ := key hjl
    obtain ⟨sz, n, xs, g1, g2, g3, g4⟩ := I.vec k (hkl k h3)
    have g4' : ∀ b, (E.vc k).ownBlock = some b → (w0.heap.size ≤ b ∨ G b) ∧ (∀ i, (E.ren os ks g0).live i → (E.ren os ks g0).β i ≠ b) ∧ ∀ j, E.Z b j = xs[j]? := fun b hb => by
      refine ⟨(g4 b hb).1, fun i hi => ?_, (g4 b hb).2.2⟩
      obtain ⟨o, h5, h6⟩ := hi
      show E.β (os.getD i 0) ≠ b
      rw [gd h5]; exact (g4 b hb).2.1 o h6
    refine ⟨sz, n, xs, ?_, ?_, g3, ?_⟩
    · show sizeT P (E.ve (ks.getD j 0)) = some sz
      rw [h2]; exact g1
    · show ownsR w 0 (E.ve (ks.getD j 0)) sz (E.vc (ks.getD j 0)) n xs
      rw [h2]; exact g2
    · show ∀ b, (E.vc (ks.getD j 0)).ownBlock = some b → _
      rw [h2]; exact g4'
  · obtain ⟨k, h1, h2, h3⟩ := key (show j < ks.length from hj)
    obtain ⟨k', h1', h2', h3'⟩ := key (show j' < ks.length from hj')
    have hb1 : (E.vc (ks.getD j 0)).ownBlock = some b := hb
    have hb2 : (E.vc (ks.getD j' 0)).ownBlock = some b := hb'
    rw [h2] at hb1
    rw [h2'] at hb2
    obtain rfl := I.vinj k k' b (hkl k h3) (hkl k' h3') hb1 hb2
    exact ndo hk h1 h1'
end
end
end Go.Proofs.YtomblhnchdokmaaGreatDoor

namespace Go.Proofs.YtomblhnchdokmaaGreatDoor
set_option linter.unusedSimpArgs false
set_option linter.unusedVariables false
open Go.RowKit
set_option maxRecDepth 10000
noncomputable section

/-- slice j of the part is slice bk of the whole -/
def bk (ks : List Nat) (m j : Nat) : Nat := bif Nat.blt j ks.length then ks.getD j 0 else m + (j - ks.length)
mutual
/-- a value of the part, told of the whole (slices below mk are kept) -/
def bak (os ks : List Nat) (m ng mk : Nat) (gn : List (Nat × Nat × TypeId)) : AV → AV
  | .ptr i off => match os[i]? with | some o => .ptr o off | none => .any
  | .mp i => match os[i]? with | some o => .mp o | none => .any
  | .sl kn es d (some (j, g)) => match lookG j gn with
    | some (g', _) => bif Nat.beq g g' && Nat.blt j mk then .sl kn es d (some (bk ks m j, ng + j)) else .sl kn es d none
    | _ => .sl kn es d none
  | .fn f a c => .fn f (bakL os ks m ng mk gn a) (bakL os ks m ng mk gn c)
  | .agg cs => .agg (bakL os ks m ng mk gn cs)
  | .tup vs => .tup (bakL os ks m ng mk gn vs)
  | .sl kn es d none => .sl kn es d none
  | .any => .any
  | .sc kn v => .sc kn v
  | .ep kn es d j => .ep kn es d j
  | .rsl kn i n len => match os[i]? with | some o => .rsl kn o n len | none => .any
  | .rp kn i n e j => match os[i]? with | some o => .rp kn o n e j | none => .any
  | .rw es d => .rw es d
  | .vsl _ _ _ _ _ => .any
  | .al _ _ _ _ => .any
  | .ea _ => .any
def bakL (os ks : List Nat) (m ng mk : Nat) (gn : List (Nat × Nat × TypeId)) : List AV → List AV
  | [] => []
  | x :: xs => bak os ks m ng mk gn x :: bakL os ks m ng mk gn xs
end
def bakO (os ks : List Nat) (m ng mk : Nat) (h' : Hp) : List Nat → Nat → List (Nat × List AV)
  | [], _ => []
  | o :: r, i => match lookO i h'.ob with
    | some cs => (o, bakL os ks m ng mk h'.gn cs) :: bakO os ks m ng mk h' r (i + 1)
    | none => bakO os ks m ng mk h' r (i + 1)
def bakG (ks : List Nat) (m ng : Nat) (gn : List (Nat × Nat × TypeId)) : Nat → List (Nat × Nat × TypeId)
  | 0 => []
  | j + 1 => match lookG j gn with
    | some (_, e) => (bk ks m j, ng + j, e) :: bakG ks m ng gn j
    | none => bakG ks m ng gn j
/-- the whole, behind what was done to the part -/
def Hp.bak (h : Hp) (os ks : List Nat) (mk : Nat) (h' : Hp) : Hp :=
  ⟨bakO os ks h.nv h.ng mk h' os 0 ++ h.ob, h.nx, bakG ks h.nv h.ng h'.gn mk ++ h.gn, h.nv + (mk - ks.length), h.ng + mk, h.ep⟩

section
variable {P : Program} {E E' : Env} {h h' : Hp} {w w0 w' : World} {G : Nat → Prop} {os ks : List Nat} {g0 mk ep : Nat}

theorem ndp {l : List Nat} (hl : l.Nodup) {i j o : Nat} (h1 : l[i]? = some o) (h2 : l[j]? = some o) : i = j :=
  (List.getElem?_inj (List.getElem?_eq_some_iff.1 h1).1 hl).1 (h1.trans h2.symm)
theorem gdp {l : List Nat} {i o : Nat} (hi : l[i]? = some o) : l.getD i 0 = o := by rw [List.getD_eq_getElem?_getD, hi]; rfl
theorem bk_lt {m j : Nat} (hj : j < ks.length) : bk ks m j = ks.getD j 0 := by
  unfold bk
  rw [show Nat.blt j ks.length = true from Nat.ble_eq_true_of_le hj]
  rfl
theorem bk_ge {m j : Nat} (hj : ks.length ≤ j) : bk ks m j = m + (j - ks.length) := by
  unfold bk
  have : Nat.blt j ks.length = false := by
    cases hb : Nat.blt j ks.length
    · rfl
    · have := Nat.le_of_ble_eq_true hb; omega
  rw [this]; rfl
theorem bk_inj {m : Nat} (hk : ks.Nodup) (hkl : ∀ k ∈ ks, k < m) {i j : Nat} (e : bk ks m i = bk ks m j) : i = j := by
  have hm : ∀ {i}, i < ks.length → ks.getD i 0 < m := fun {i} hi => by
    rw [List.getD_eq_getElem?_getD, List.getElem?_eq_getElem hi]; exact hkl _ (List.getElem_mem hi)
  rcases Nat.lt_or_ge i ks.length with hi | hi <;> rcases Nat.lt_or_ge j ks.length with hj | hj
  · rw [bk_lt hi, bk_lt hj] at e
    refine ndp hk (List.getElem?_eq_getElem hi) ?_
    rw [List.getElem?_eq_getElem hj]
    rw [List.getD_eq_getElem?_getD, List.getD_eq_getElem?_getD, List.getElem?_eq_getElem hi, List.getElem?_eq_getElem hj] at e
    simpa using e.symm
  · rw [bk_lt hi, bk_ge hj] at e; have := hm hi; omega
  · rw [bk_ge hi, bk_lt hj] at e; have := hm hj; omega
  · rw [bk_ge hi, bk_ge hj] at e; omega
theorem lookG_bakG {m ng : Nat} {gn : List (Nat × Nat × TypeId)} (hk : ks.Nodup) (hkl : ∀ k ∈ ks, k < m) : ∀ (n : Nat), (∀ j, j < n → (lookG j gn).isSome = true) → (∀ j, j < n → lookG (bk ks m j) (bakG ks m ng gn n) = (lookG j gn).map fun p => (ng + j, p.2)) ∧ ∀ k, (∀ j, j < n → bk ks m j ≠ k) → lookG k (bakG ks m ng gn n) = none
  | 0, _ => ⟨fun j hj => by omega, fun _ _ => rfl⟩
  | n + 1, hs => by
    obtain ⟨h1, h2⟩ := lookG_bakG hk hkl n fun j hj => hs j (by omega)
    obtain ⟨p, hp⟩ := Option.isSome_iff_exists.1 (hs n (by omega))
    obtain ⟨g, e⟩ := p
    refine ⟨fun j hj => ?_, fun k hne => ?_⟩
    · simp only [bakG, hp]
      rw [lookG_cons]
      by_cases ej : n = j
      · subst ej; rw [if_pos rfl, hp]; rfl
      · rw [if_neg (fun e' => ej (bk_inj hk hkl e')), h1 j (by omega)]
    · simp only [bakG, hp]
      rw [lookG_cons, if_neg (hne n (by omega)), h2 k fun j hj => hne j (by omega)]
theorem lookG_append (k : Nat) : ∀ (a b : List (Nat × Nat × TypeId)), lookG k (a ++ b) = match lookG k a with | some x => some x | none => lookG k b
  | [], b => rfl
  | (i, g) :: a, b => by
    rw [List.cons_append, lookG_cons, lookG_cons]
    split
    · rfl
    · exact lookG_append k a b
theorem lookO_append (k : Nat) : ∀ (a b : List (Nat × List AV)), lookO k (a ++ b) = match lookO k a with | some x => some x | none => lookO k b
  | [], b => rfl
  | (i, g) :: a, b => by
    rw [List.cons_append, lookO_cons, lookO_cons]
    split
    · rfl
    · exact lookO_append k a b
theorem cnt_append (k : Nat) : ∀ (a b : List (Nat × List AV)), cnt k (a ++ b) = cnt k a + cnt k b
  | [], b => by simp [cnt_nil]
  | (i, g) :: a, b => by
    rw [List.cons_append, cnt_cons, cnt_cons, cnt_append k a b]
    split <;> omega
theorem cnt_pos : ∀ {k : Nat} {a : List (Nat × List AV)} {x : List AV}, lookO k a = some x → 0 < cnt k a
  | k, [], _, h => by cases h
  | k, (i, g) :: a, x, h => by
    rw [lookO_cons] at h
    rw [cnt_cons]
    split
    · omega
    · rename_i e; rw [if_neg e] at h; exact cnt_pos h
theorem lookO_bakO {m ng : Nat} (os0 : List Nat) : ∀ (l : List Nat) (s : Nat), l.Nodup → (∀ i o, l[i]? = some o → (lookO (s + i) h'.ob).isSome = true) →
    (∀ i o, l[i]? = some o → lookO o (bakO os0 ks m ng mk h' l s) = (lookO (s + i) h'.ob).map (bakL os0 ks m ng mk h'.gn)) ∧ ∀ o, o ∉ l → lookO o (bakO os0 ks m ng mk h' l s) = none ∧ cnt o (bakO os0 ks m ng mk h' l s) = 0
  | [], s, _, _ => ⟨fun i o h => by simp at h, fun _ _ => ⟨rfl, rfl⟩⟩
  | p :: r, s, hn, hs => by
    obtain ⟨hpr, hr⟩ := List.nodup_cons.1 hn
    obtain ⟨h1, h2⟩ := lookO_bakO os0 r (s + 1) hr fun i o hi => by
      have := hs (i + 1) o (by simpa using hi)
      rwa [show s + (i + 1) = s + 1 + i by omega] at this
    obtain ⟨cs, hcs⟩ := Option.isSome_iff_exists.1 (hs 0 p rfl)
    rw [Nat.add_zero] at hcs
    refine ⟨fun i o hi => ?_, fun o ho => ?_⟩
    · simp only [bakO, hcs]
      rw [lookO_cons]
      cases i with
      | zero => simp at hi; subst hi; rw [if_pos rfl, Nat.add_zero, hcs]; rfl
      | succ i =>
        have hi' : r[i]? = some o := by simpa using hi
        rw [if_neg (fun e : p = o => hpr (e ▸ List.mem_of_getElem? hi')), h1 i o hi', show s + (i + 1) = s + 1 + i by omega]
    · simp only [bakO, hcs]
      obtain ⟨ho1, ho2⟩ : o ≠ p ∧ o ∉ r := by simpa using ho
      rw [lookO_cons, cnt_cons, if_neg (fun e => ho1 e.symm), if_neg (fun e => ho1 e.symm)]
      exact h2 o ho2

/-- the meaning of the whole -/
def Env.bak (E : Env) (ks : List Nat) (mk ng : Nat) (E' : Env) : Env :=
  { β := E.β, live := E.live, Z := E'.Z
    vc := fun k => if k < E.m then (match ix k ks 0 with | some j => E'.vc j | none => E.vc k) else E'.vc (k - E.m + ks.length)
    gn := fun k => if k < E.m then (match ix k ks 0 with | some j => ng + j | none => E.gn k) else ng + (k - E.m + ks.length)
    ve := fun k => if k < E.m then (match ix k ks 0 with | some j => E'.ve j | none => E.ve k) else E'.ve (k - E.m + ks.length)
    m := E.m + (mk - ks.length), ng := ng + mk, yl := E'.yl }
theorem ix_mem : ∀ {l : List Nat} {i k s : Nat}, l.Nodup → l[i]? = some k → ix k l s = some (s + i)
  | [], _, _, _, _, h => by simp at h
  | p :: r, i, k, s, hn, h => by
    obtain ⟨hpr, hr⟩ := List.nodup_cons.1 hn
    simp only [ix]
    cases i with
    | zero => simp at h; subst h; simp
    | succ i =>
      have hi : r[i]? = some k := by simpa using h
      have hne : p ≠ k := fun e => hpr (e ▸ List.mem_of_getElem? hi)
      have hb : Nat.beq p k = false := by cases hb : Nat.beq p k; rfl; exact absurd (Nat.eq_of_beq_eq_true hb) hne
      rw [hb]
      simp only [cond_false]
      rw [ix_mem hr hi, show s + 1 + i = s + (i + 1) by omega]
theorem ix_none : ∀ {l : List Nat} {k s : Nat}, k ∉ l → ix k l s = none
  | [], _, _, _ => rfl
  | p :: r, k, s, h => by
    obtain ⟨h1, h2⟩ : k ≠ p ∧ k ∉ r := by simpa using h
    have hb : Nat.beq p k = false := by cases hb : Nat.beq p k; rfl; exact absurd (Nat.eq_of_beq_eq_true hb).symm h1
    simp only [ix, hb, cond_false]
    exact ix_none h2
/-- of slice bk j -/
theorem bak_bk (hk : ks.Nodup) (hkl : ∀ k ∈ ks, k < E.m) {ng j : Nat} : (E.bak ks mk ng E').vc (bk ks E.m j) = E'.vc j ∧ (E.bak ks mk ng E').gn (bk ks E.m j) = ng + j ∧ (E.bak ks mk ng E').ve (bk ks E.m j) = E'.ve j := by
  simp only [Env.bak]
  rcases Nat.lt_or_ge j ks.length with hj | hj
  · have hg := List.getElem?_eq_getElem hj
    rw [bk_lt hj, gdp hg, if_pos (hkl _ (List.getElem_mem hj)), if_pos (hkl _ (List.getElem_mem hj)), if_pos (hkl _ (List.getElem_mem hj)), ix_mem hk hg]
    simp
  · rw [bk_ge hj, if_neg (by omega), if_neg (by omega), if_neg (by omega), show E.m + (j - ks.length) - E.m + ks.length = j by omega]
    exact ⟨rfl, rfl, rfl⟩
theorem bak_old {ng k : Nat} (hkm : k < E.m) (hkn : k ∉ ks) : (E.bak ks mk ng E').vc k = E.vc k ∧ (E.bak ks mk ng E').gn k = E.gn k ∧ (E.bak ks mk ng E').ve k = E.ve k := by
  simp only [Env.bak, if_pos hkm, ix_none hkn]
  exact ⟨trivial, trivial, trivial⟩
/-- which slices there are -/
theorem bak_cases {k : Nat} (hkm : k < E.m + (mk - ks.length)) (hq : ks.length ≤ mk) : (k < E.m ∧ k ∉ ks) ∨ ∃ j, j < mk ∧ k = bk ks E.m j := by
  by_cases h1 : k < E.m
  · by_cases h2 : k ∈ ks
    · obtain ⟨j, hj⟩ := List.mem_iff_getElem?.1 h2
      have hjl := (List.getElem?_eq_some_iff.1 hj).1
      exact .inr ⟨j, by omega, by rw [bk_lt hjl, gdp hj]⟩
    · exact .inl ⟨h1, h2⟩
  · exact .inr ⟨k - E.m + ks.length, by omega, by rw [bk_ge (by omega)]; omega⟩

mutual
theorem bak_rel (I' : Inv P w (E.ren os ks g0).mine E' h' w') (hx : Ext (E.ren os ks g0) E') (hk : ks.Nodup) (hkl : ∀ k ∈ ks, k < E.m) (hmk : mk ≤ E'.m) (hq : ks.length ≤ mk) (hol : ∀ o ∈ os, E.live o) (ng : Nat) : ∀ (x : AV) (v : Value), Rel E' x v → Rel (E.bak ks mk ng E') (bak os ks E.m ng mk h'.gn x) v
  | .any, _, _ => trivial
  | .sc _ _, _, H => H
  | .ep _ _ _ _, _, H => H
  | .rw _ _, _, H => H
  | .vsl _ _ _ _ _, _, _ => trivial
  | .al _ _ _ _, _, _ => trivial
  | .ea _, _, _ => trivial
  | .rsl _ i _ _, v, ⟨hl, ad, cap, g1, g2, g3, g4, g5⟩ => by
    simp only [bak]
    split
    · rename_i o ho
      have hlo := hol o (List.mem_of_getElem? ho)
      have hb := hx.β i ⟨o, ho, hlo⟩
      refine ⟨hlo, ad, cap, g1, g2, g3, g4, fun hn => ?_⟩
      rw [g5 hn, hb]
      simp only [Env.ren, Env.bak, gdp ho]
    · exact trivial
  | .rp _ i _ _ _, v, ⟨hl, hv⟩ => by
    simp only [bak]
    split
    · rename_i o ho
      have hlo := hol o (List.mem_of_getElem? ho)
      have hb := hx.β i ⟨o, ho, hlo⟩
      refine ⟨hlo, ?_⟩
      rw [hv, hb]
      simp only [Env.ren, Env.bak, gdp ho]
    · exact trivial
  | .ptr i off, v, ⟨hl, hv⟩ => by
    simp only [bak]
    split
    · rename_i o ho
      have hlo := hol o (List.mem_of_getElem? ho)
      have hb := hx.β i ⟨o, ho, hlo⟩
      refine ⟨hlo, ?_⟩
      rw [hv, hb]
      simp only [Env.ren, Env.bak, gdp ho]
    · exact trivial
  | .mp i, v, ⟨hl, hv⟩ => by
    simp only [bak]
    split
    · rename_i o ho
      have hlo := hol o (List.mem_of_getElem? ho)
      have hb := hx.β i ⟨o, ho, hlo⟩
      refine ⟨hlo, ?_⟩
      rw [hv, hb]
      simp only [Env.ren, Env.bak, gdp ho]
    · exact trivial
  | .sl kn es d none, v, H => H
  | .sl kn es d (some (j, g)), v, ⟨h1, hj, hg, hc⟩ => by
    simp only [bak]
    have hno : Rel (E.bak ks mk ng E') (.sl kn es d none) v := ⟨h1, trivial⟩
    split
    · rename_i g' e hl
      cases hb : Nat.beq g g' && Nat.blt j mk
      · exact hno
      · simp only [Bool.and_eq_true] at hb
        obtain rfl := Nat.eq_of_beq_eq_true hb.1
        have hjm : j < mk := Nat.le_of_ble_eq_true hb.2
        have hgn := (I'.gn j (by rw [← I'.m]; exact hj)).symm.trans hl
        injection hgn with hgn
        have hg1 : E'.gn j = g := congrArg Prod.fst hgn
        obtain ⟨b1, b2, b3⟩ := bak_bk (E := E) (E' := E') (mk := mk) hk hkl (ng := ng) (j := j)
        refine ⟨h1, ?_, by show ng + j < ng + mk; omega, fun _ => ?_⟩
        · show bk ks E.m j < E.m + (mk - ks.length)
          rcases Nat.lt_or_ge j ks.length with h | h
          · rw [bk_lt h, gdp (List.getElem?_eq_getElem h)]
            have := hkl _ (List.getElem_mem h); omega
          · rw [bk_ge h]; omega
        · rw [b1]; exact hc hg1
    · exact hno
  | .fn f a c, v, ⟨a', c', h1, h2, h3⟩ => ⟨a', c', h1, bak_relL I' hx hk hkl hmk hq hol ng a _ h2, bak_relL I' hx hk hkl hmk hq hol ng c _ h3⟩
  | .agg cs, v, ⟨cs', h1, h2, h3⟩ => ⟨cs', h1, bak_relL I' hx hk hkl hmk hq hol ng cs _ h2, h3⟩
  | .tup vs, v, ⟨vs', h1, h2⟩ => ⟨vs', h1, bak_relL I' hx hk hkl hmk hq hol ng vs _ h2⟩
theorem bak_relL (I' : Inv P w (E.ren os ks g0).mine E' h' w') (hx : Ext (E.ren os ks g0) E') (hk : ks.Nodup) (hkl : ∀ k ∈ ks, k < E.m) (hmk : mk ≤ E'.m) (hq : ks.length ≤ mk) (hol : ∀ o ∈ os, E.live o) (ng : Nat) : ∀ (xs : List AV) (vs : List Value), RelL E' xs vs → RelL (E.bak ks mk ng E') (bakL os ks E.m ng mk h'.gn xs) vs
  | [], _, H => H
  | x :: xs, _, ⟨v, vs', h1, h2, h3⟩ => ⟨v, vs', h1, bak_rel I' hx hk hkl hmk hq hol ng x v h2, bak_relL I' hx hk hkl hmk hq hol ng xs vs' h3⟩
end

theorem Inv.bak (I : Inv P w0 G E h w) (hon : os.Nodup) (hol : ∀ o ∈ os, E.live o) (hk : ks.Nodup) (hkl : ∀ k ∈ ks, k < E.m) (hq : ks.length ≤ mk) (hmk : mk ≤ E'.m)
    (S : Stepd P w (E.ren os ks g0).mine (E.ren os ks g0) (h.ren os ks g0 ep) w E' h' w') :
    Stepd P w0 G E h w (E.bak ks mk h.ng E') (h.bak os ks mk h') w' := by
  have I' := S.inv
  have hx := S.ext
  have hm0 := I.m
  -- what the call may write
  have mine : ∀ b, (E.ren os ks g0).mine b → (∃ o, o ∈ os ∧ E.β o = b) ∨ ∃ k, k ∈ ks ∧ (E.vc k).ownBlock = some b := fun b hb => by
    rcases hb with ⟨i, ⟨o, h1, h2⟩, h3⟩ | ⟨j, hj, hb⟩
    · left
      refine ⟨o, List.mem_of_getElem? h1, ?_⟩
      have : E.β (os.getD i 0) = b := h3
      rwa [gdp h1] at this
    · right
      have hj' : j < ks.length := hj
      have hb' : (E.vc (ks.getD j 0)).ownBlock = some b := hb
      rw [gdp (List.getElem?_eq_getElem hj')] at hb'
      exact ⟨_, List.getElem_mem hj', hb'⟩
  have mineG : ∀ b, (E.ren os ks g0).mine b → w0.heap.size ≤ b ∨ G b := fun b hb => by
    rcases mine b hb with ⟨o, h1, rfl⟩ | ⟨k, h1, h2⟩
    · exact I.own o (hol o h1)
    · obtain ⟨_, _, _, _, _, _, g4⟩ := I.vec k (by rw [← I.m]; exact hkl k h1)
      exact (g4 b h2).1
  have notobj : ∀ o, E.live o → o ∉ os → ¬ (E.ren os ks g0).mine (E.β o) := fun o hl hn hb => by
    rcases mine _ hb with ⟨o', h1, h2⟩ | ⟨k, h1, h2⟩
    · exact hn (I.inj o' o (hol o' h1) hl h2 ▸ h1)
    · obtain ⟨_, _, _, _, _, _, g4⟩ := I.vec k (by rw [← I.m]; exact hkl k h1)
      exact (g4 _ h2).2.1 o hl rfl
  have notvec : ∀ k, k < E.m → k ∉ ks → ∀ b, (E.vc k).ownBlock = some b → ¬ (E.ren os ks g0).mine b := fun k hkm hn b hb hmb => by
    obtain ⟨_, _, _, _, _, _, g4⟩ := I.vec k (by rw [← I.m]; exact hkm)
    rcases mine _ hmb with ⟨o, h1, h2⟩ | ⟨k', h1, h2⟩
    · exact (g4 b hb).2.1 o (hol o h1) h2
    · exact hn (I.vinj k k' b (by rw [← I.m]; exact hkm) (by rw [← I.m]; exact hkl k' h1) hb h2 ▸ h1)
  have same : ∀ b, b < w.heap.size → ¬ (E.ren os ks g0).mine b → w'.heap[b]? = w.heap[b]? := fun b hb hn => I'.kpt.block b hb hn
  have liveE' : ∀ i o, os[i]? = some o → E'.live i ∧ E'.β i = E.β o := fun i o hi => by
    have hl : (E.ren os ks g0).live i := ⟨o, hi, hol o (List.mem_of_getElem? hi)⟩
    refine ⟨hx.live i hl, (hx.β i hl).trans ?_⟩
    show E.β (os.getD i 0) = E.β o
    rw [gdp hi]
  have zold : ∀ b j v, b < w.heap.size → ¬ (E.ren os ks g0).mine b → E'.Z b j = some v → E.Z b j = some v := fun b j v hb hn hz => by
    rcases S.zn b j v hz with h | h | h
    · exact h
    · omega
    · exact absurd h hn
  have hZ : ∀ b j v, E.Z b j = some v → E'.Z b j = some v := hx.Z
  have hmm : E'.m = h'.nv := I'.m
  have hGs : ∀ j, j < mk → (lookG j h'.gn).isSome = true := fun j hj => by rw [I'.gn j (by omega)]; rfl
  have hkl' : ∀ k ∈ ks, k < h.nv := fun k hk' => by rw [← I.m]; exact hkl k hk'
  obtain ⟨bg1, bg2⟩ := lookG_bakG (ng := h.ng) hk hkl' mk hGs
  have hOs : ∀ i o, os[i]? = some o → (lookO (0 + i) h'.ob).isSome = true := fun i o hi => by
    rw [Nat.zero_add]; exact (I'.live i).1 (liveE' i o hi).1
  obtain ⟨bo1, bo2⟩ := lookO_bakO (ks := ks) (m := h.nv) (ng := h.ng) (mk := mk) (h' := h') os os 0 hon hOs
  have hext : Ext E (E.bak ks mk h.ng E') := by
    refine ⟨fun _ h => h, fun _ _ => rfl, hZ, Nat.le_add_right _ _, by rw [I.ng]; exact Nat.le_add_right _ _, fun k hkm => ?_, hx.yl⟩
    by_cases hn : k ∈ ks
    · obtain ⟨j, hj⟩ := List.mem_iff_getElem?.1 hn
      right
      simp only [Env.bak, if_pos hkm, ix_mem hk hj]
      rw [I.ng]; omega
    · obtain ⟨a1, a2, _⟩ := bak_old (mk := mk) (E' := E') (ng := h.ng) hkm hn
      exact .inl ⟨a1, a2⟩
  have hbr : ∀ (xs : List AV) (vs : List Value), RelL E' xs vs → RelL (E.bak ks mk h.ng E') (bakL os ks h.nv h.ng mk h'.gn xs) vs := fun xs vs hr => by
    rw [← I.m]; exact bak_relL I' hx hk hkl hmk hq hol h.ng xs vs hr
  -- a slice of the part lies apart
  have partv : ∀ j, j < mk → ∀ b, (E'.vc j).ownBlock = some b → w.heap.size ≤ b ∨ (E.ren os ks g0).mine b := fun j hj b hb => by
    obtain ⟨_, _, _, _, _, _, g4⟩ := I'.vec j (by omega)
    exact (g4 b hb).1
  refine ⟨hext, ⟨I.kpt.then I'.kpt mineG, by show E.m + (mk - ks.length) = h.nv + (mk - ks.length); rw [I.m], rfl, fun k hkn => ?_, fun k hkn => ?_, fun o => ?_, I.nx, fun o cs hcs => ?_, I.own, I.inj, I'.z, fun o j hlo => ?_, fun k hkn => ?_, fun k k' b hkn hkn' hb hb' => ?_, I'.laid⟩, fun o hlo => ?_, fun b j v hz => ?_⟩
  · -- stamps
    show lookG k (bakG ks h.nv h.ng h'.gn mk ++ h.gn) = _
    rw [lookG_append]
    rcases bak_cases (E := E) (mk := mk) (by rw [I.m]; exact hkn) hq with ⟨h1, h2⟩ | ⟨j, h1, rfl⟩
    · obtain ⟨a1, a2, a3⟩ := bak_old (mk := mk) (E' := E') (ng := h.ng) h1 h2
      rw [a2, a3, bg2 k fun j hj e => ?_]
      · exact I.gn k (by rw [← I.m]; exact h1)
      · rcases Nat.lt_or_ge j ks.length with hjl | hjl
        · rw [bk_lt hjl, gdp (List.getElem?_eq_getElem hjl)] at e
          exact h2 (e ▸ List.getElem_mem hjl)
        · rw [bk_ge hjl] at e; omega
    · obtain ⟨a1, a2, a3⟩ := bak_bk (E := E) (E' := E') (mk := mk) hk hkl (ng := h.ng) (j := j)
      have := bg1 j h1
      rw [a2, a3]
      rw [← I.m] at this ⊢
      rw [this, I'.gn j (by omega)]
      rfl
  · rcases bak_cases (E := E) (mk := mk) (by rw [I.m]; exact hkn) hq with ⟨h1, h2⟩ | ⟨j, h1, rfl⟩
    · obtain ⟨a1, a2, a3⟩ := bak_old (mk := mk) (E' := E') (ng := h.ng) h1 h2
      rw [a2]
      have := I.gnlt k (by rw [← I.m]; exact h1)
      show E.gn k < h.ng + mk
      omega
    · obtain ⟨a1, a2, a3⟩ := bak_bk (E := E) (E' := E') (mk := mk) hk hkl (ng := h.ng) (j := j)
      rw [a2]
      show h.ng + j < h.ng + mk
      omega
  · -- which objects
    show E.live o ↔ (lookO o (bakO os ks h.nv h.ng mk h' os 0 ++ h.ob)).isSome = true
    rw [lookO_append]
    by_cases ho : o ∈ os
    · obtain ⟨i, hi⟩ := List.mem_iff_getElem?.1 ho
      rw [bo1 i o hi]
      obtain ⟨cs, hcs⟩ := Option.isSome_iff_exists.1 (hOs i o hi)
      rw [hcs]
      simp [hol o ho]
    · rw [(bo2 o ho).1]
      exact I.live o
  · have hcs' : lookO o (bakO os ks h.nv h.ng mk h' os 0 ++ h.ob) = some cs := hcs
    rw [lookO_append] at hcs'
    by_cases ho : o ∈ os
    · obtain ⟨i, hi⟩ := List.mem_iff_getElem?.1 ho
      rw [bo1 i o hi, Nat.zero_add] at hcs'
      cases hc : lookO i h'.ob with
      | none =>
        have := hOs i o hi
        rw [Nat.zero_add, hc] at this; cases this
      | some cs0 =>
        simp only [hc, Option.map_some, Option.some.injEq] at hcs'
        subst hcs'
        obtain ⟨vs, t, g1, g2, g3⟩ := I'.ob i cs0 hc
        refine ⟨vs, t, ?_, hbr _ _ g2, g3⟩
        show w'.heap[E.β o]? = _
        rw [← (liveE' i o hi).2]; exact g1
    · rw [(bo2 o ho).1] at hcs'
      simp only at hcs'
      obtain ⟨vs, t, g1, g2, g3⟩ := I.ob o cs hcs'
      have hlo : E.live o := (I.live o).2 (by rw [hcs']; rfl)
      exact ⟨vs, t, (same _ (I.live_lt hlo) (notobj o hlo ho)).trans g1, RelL.mono hext _ _ g2, g3⟩
  · show E'.Z (E.β o) j = none
    by_cases ho : o ∈ os
    · obtain ⟨i, hi⟩ := List.mem_iff_getElem?.1 ho
      rw [← (liveE' i o hi).2]
      exact I'.zob i j (liveE' i o hi).1
    · cases hz : E'.Z (E.β o) j with
      | none => rfl
      | some v =>
        have := zold _ _ _ (I.live_lt hlo) (notobj o hlo ho) hz
        rw [I.zob o j hlo] at this; cases this
  · -- slices
    rcases bak_cases (E := E) (mk := mk) (by rw [I.m]; exact hkn) hq with ⟨h1, h2⟩ | ⟨j, h1, rfl⟩
    · obtain ⟨a1, a2, a3⟩ := bak_old (mk := mk) (E' := E') (ng := h.ng) h1 h2
      rw [a1, a3]
      obtain ⟨sz, n, xs, g1, g2, g3, g4⟩ := I.vec k (by rw [← I.m]; exact h1)
      refine ⟨sz, n, xs, g1, owns_same g2 fun b hb => same b (owns_lt g2 hb) (notvec k h1 h2 b hb), g3, fun b hb => ⟨(g4 b hb).1, (g4 b hb).2.1, fun j => ?_⟩⟩
      show E'.Z b j = xs[j]?
      rw [← (g4 b hb).2.2 j]
      cases hz : E.Z b j with
      | some v => exact hZ b j v hz
      | none =>
        cases hz' : E'.Z b j with
        | none => rfl
        | some v =>
          have := zold _ _ _ (owns_lt g2 hb) (notvec k h1 h2 b hb) hz'
          rw [hz] at this; cases this
    · obtain ⟨a1, a2, a3⟩ := bak_bk (E := E) (E' := E') (mk := mk) hk hkl (ng := h.ng) (j := j)
      rw [a1, a3]
      obtain ⟨sz, n, xs, g1, g2, g3, g4⟩ := I'.vec j (by omega)
      refine ⟨sz, n, xs, g1, g2, g3, fun b hb => ⟨?_, fun o hlo e => ?_, (g4 b hb).2.2⟩⟩
      · rcases (g4 b hb).1 with h | h
        · exact .inl (Nat.le_trans I.kpt.size h)
        · exact mineG b h
      · have e' : E.β o = b := e
        by_cases ho : o ∈ os
        · obtain ⟨i, hi⟩ := List.mem_iff_getElem?.1 ho
          exact (g4 b hb).2.1 i (liveE' i o hi).1 ((liveE' i o hi).2.trans e')
        · rcases (g4 b hb).1 with h | h
          · have := I.live_lt hlo; omega
          · exact notobj o hlo ho (e' ▸ h)
  · have old : ∀ k, k < E.m → k ∉ ks → ∀ b, (E.vc k).ownBlock = some b → ∀ j, j < mk → (E'.vc j).ownBlock ≠ some b := fun k h1 h2 b hb j hj hbj => by
      obtain ⟨_, _, _, _, g2, _⟩ := I.vec k (by rw [← I.m]; exact h1)
      rcases partv j hj b hbj with h | h
      · have := owns_lt g2 hb; omega
      · exact notvec k h1 h2 b hb h
    rcases bak_cases (E := E) (mk := mk) (by rw [I.m]; exact hkn) hq with ⟨h1, h2⟩ | ⟨j, h1, rfl⟩ <;> rcases bak_cases (E := E) (mk := mk) (by rw [I.m]; exact hkn') hq with ⟨h1', h2'⟩ | ⟨j', h1', rfl⟩
    · rw [(bak_old (mk := mk) (E' := E') (ng := h.ng) h1 h2).1] at hb
      rw [(bak_old (mk := mk) (E' := E') (ng := h.ng) h1' h2').1] at hb'
      exact I.vinj k k' b (by rw [← I.m]; exact h1) (by rw [← I.m]; exact h1') hb hb'
    · rw [(bak_old (mk := mk) (E' := E') (ng := h.ng) h1 h2).1] at hb
      rw [(bak_bk (E := E) (E' := E') (mk := mk) hk hkl (ng := h.ng) (j := j')).1] at hb'
      exact absurd hb' (old k h1 h2 b hb j' h1')
    · rw [(bak_bk (E := E) (E' := E') (mk := mk) hk hkl (ng := h.ng) (j := j)).1] at hb
      rw [(bak_old (mk := mk) (E' := E') (ng := h.ng) h1' h2').1] at hb'
      exact absurd hb (old k' h1' h2' b hb' j h1)
    · rw [(bak_bk (E := E) (E' := E') (mk := mk) hk hkl (ng := h.ng) (j := j)).1] at hb
      rw [(bak_bk (E := E) (E' := E') (mk := mk) hk hkl (ng := h.ng) (j := j')).1] at hb'
      rw [I'.vinj j j' b (by omega) (by omega) hb hb']
  · have hv : ver o (h.bak os ks mk h') = h.ep + (cnt o (bakO os ks h.nv h.ng mk h' os 0) + cnt o h.ob) := by
      show h.ep + cnt o (bakO os ks h.nv h.ng mk h' os 0 ++ h.ob) = _
      rw [cnt_append]
    unfold ver at hv ⊢
    rw [hv]
    refine ⟨by omega, fun e => ?_⟩
    by_cases ho : o ∈ os
    · obtain ⟨i, hi⟩ := List.mem_iff_getElem?.1 ho
      have := bo1 i o hi
      obtain ⟨cs, hcs⟩ := Option.isSome_iff_exists.1 (hOs i o hi)
      rw [hcs] at this
      have := cnt_pos this
      omega
    · exact same _ (I.live_lt hlo) (notobj o hlo ho)
  · rcases S.zn b j v hz with h | h | h
    · exact .inl h
    · exact .inr (.inl (Nat.le_trans I.kpt.size h))
    · exact .inr (mineG b h)
end
end
end Go.Proofs.YtomblhnchdokmaaGreatDoor

namespace Go.Proofs.YtomblhnchdokmaaGreatDoor
set_option linter.unusedSimpArgs false
set_option linter.unusedVariables false
open Go.RowKit
set_option maxRecDepth 10000
noncomputable section

mutual
/-- a value without what the heap tells -/
def strip : AV → AV
  | .ptr _ _ => .any
  | .mp _ => .any
  | .sl kn es d _ => .sl kn es d none
  | .fn f a c => .fn f (stripL a) (stripL c)
  | .agg cs => .agg (stripL cs)
  | .tup vs => .tup (stripL vs)
  | .any => .any
  | .sc kn v => .sc kn v
  | .ep kn es d j => .ep kn es d j
  | .rsl _ _ _ _ => .any
  | .rp _ _ _ _ _ => .any
  | .rw es d => .rw es d
  | .vsl _ _ _ _ _ => .any
  | .al _ _ _ _ => .any
  | .ea _ => .any
def stripL : List AV → List AV
  | [] => []
  | x :: xs => strip x :: stripL xs
end
mutual
theorem ren_strip (g0 : Nat) (gn : List (Nat × Nat × TypeId)) : ∀ (x : AV), ren [] [] g0 gn x = strip x
  | .ptr _ _ => rfl
  | .mp _ => rfl
  | .sl _ _ _ none => rfl
  | .sl _ _ _ (some (_, _)) => rfl
  | .fn f a c => by simp only [ren, strip, ren_stripL g0 gn a, ren_stripL g0 gn c]
  | .agg cs => by simp only [ren, strip, ren_stripL g0 gn cs]
  | .tup cs => by simp only [ren, strip, ren_stripL g0 gn cs]
  | .any => rfl
  | .sc _ _ => rfl
  | .ep _ _ _ _ => rfl
  | .rsl _ _ _ _ => rfl
  | .rp _ _ _ _ _ => rfl
  | .rw _ _ => rfl
  | .vsl _ _ _ _ _ => rfl
  | .al _ _ _ _ => rfl
  | .ea _ => rfl
theorem ren_stripL (g0 : Nat) (gn : List (Nat × Nat × TypeId)) : ∀ (xs : List AV), renL [] [] g0 gn xs = stripL xs
  | [] => rfl
  | x :: xs => by simp only [renL, stripL, ren_strip g0 gn x, ren_stripL g0 gn xs]
end
mutual
theorem bak_strip (m ng : Nat) (gn : List (Nat × Nat × TypeId)) : ∀ (x : AV), bak [] [] m ng 0 gn x = strip x
  | .ptr _ _ => rfl
  | .mp _ => rfl
  | .sl _ _ _ none => rfl
  | .sl kn es d (some (j, g)) => by
    simp only [bak, strip]
    split
    · rename_i g' e _
      have : Nat.blt j 0 = false := rfl
      rw [this, Bool.and_false]; rfl
    · rfl
  | .fn f a c => by simp only [bak, strip, bak_stripL m ng gn a, bak_stripL m ng gn c]
  | .agg cs => by simp only [bak, strip, bak_stripL m ng gn cs]
  | .tup cs => by simp only [bak, strip, bak_stripL m ng gn cs]
  | .any => rfl
  | .sc _ _ => rfl
  | .ep _ _ _ _ => rfl
  | .rsl _ _ _ _ => rfl
  | .rp _ _ _ _ _ => rfl
  | .rw _ _ => rfl
  | .vsl _ _ _ _ _ => rfl
  | .al _ _ _ _ => rfl
  | .ea _ => rfl
theorem bak_stripL (m ng : Nat) (gn : List (Nat × Nat × TypeId)) : ∀ (xs : List AV), bakL [] [] m ng 0 gn xs = stripL xs
  | [] => rfl
  | x :: xs => by simp only [bakL, stripL, bak_strip m ng gn x, bak_stripL m ng gn xs]
end
mutual
theorem strip_strip : ∀ (x : AV), strip (strip x) = strip x
  | .ptr _ _ => rfl
  | .mp _ => rfl
  | .sl _ _ _ _ => rfl
  | .fn f a c => by simp only [strip, strip_stripL a, strip_stripL c]
  | .agg cs => by simp only [strip, strip_stripL cs]
  | .tup cs => by simp only [strip, strip_stripL cs]
  | .any => rfl
  | .sc _ _ => rfl
  | .ep _ _ _ _ => rfl
  | .rsl _ _ _ _ => rfl
  | .rp _ _ _ _ _ => rfl
  | .rw _ _ => rfl
  | .vsl _ _ _ _ _ => rfl
  | .al _ _ _ _ => rfl
  | .ea _ => rfl
theorem strip_stripL : ∀ (xs : List AV), stripL (stripL xs) = stripL xs
  | [] => rfl
  | x :: xs => by simp only [stripL, strip_strip x, strip_stripL xs]
end
mutual
/-- a value of which nothing is known ahead -/
def dull : AV → AV
  | .sc _ v => .sc false v
  | .sl _ es d tip => .sl false es d tip
  | .ep _ es d j => .ep false es d j
  | .rsl _ o n len => .rsl false o n len
  | .rp _ o n i j => .rp false o n i j
  | .rw es d => .rw es d
  | .fn f a c => .fn f (dullL a) (dullL c)
  | .agg cs => .agg (dullL cs)
  | .tup vs => .tup (dullL vs)
  | .any => .any
  | .ptr o off => .ptr o off
  | .mp o => .mp o
  | .vsl o off n len cap => .vsl o off n len cap
  | .al n len cs tip => .al n len cs tip
  | .ea cs => .ea cs
def dullL : List AV → List AV
  | [] => []
  | x :: xs => dull x :: dullL xs
end
mutual
theorem dull_rel {E : Env} : ∀ (x : AV) (v : Value), Rel E x v → Rel E (dull x) v
  | .sc _ _, _, H => H
  | .sl _ _ _ _, _, H => H
  | .ep _ _ _ _, _, H => H
  | .rsl _ _ _ _, _, H => H
  | .rp _ _ _ _ _, _, H => H
  | .rw _ _, _, H => H
  | .fn f a c, v, ⟨a', c', h1, h2, h3⟩ => ⟨a', c', h1, dull_relL a _ h2, dull_relL c _ h3⟩
  | .agg cs, v, ⟨cs', h1, h2, h3⟩ => ⟨cs', h1, dull_relL cs _ h2, h3⟩
  | .tup vs, v, ⟨vs', h1, h2⟩ => ⟨vs', h1, dull_relL vs _ h2⟩
  | .any, _, H => H
  | .ptr _ _, _, H => H
  | .mp _, _, H => H
  | .vsl _ _ _ _ _, _, H => H
  | .al _ _ _ _, _, H => H
  | .ea _, _, H => H
theorem dull_relL {E : Env} : ∀ (xs : List AV) (vs : List Value), RelL E xs vs → RelL E (dullL xs) vs
  | [], _, H => H
  | x :: xs, _, ⟨v, vs', h1, h2, h3⟩ => ⟨v, vs', h1, dull_rel x v h2, dull_relL xs vs' h3⟩
end
mutual
theorem strip_rel {E : Env} : ∀ (x : AV) (v : Value), Rel E x v → Rel E (strip x) v
  | .ptr _ _, _, _ => trivial
  | .mp _, _, _ => trivial
  | .sl _ _ _ _, _, ⟨h, _⟩ => ⟨h, trivial⟩
  | .fn f a c, v, ⟨a', c', h1, h2, h3⟩ => ⟨a', c', h1, strip_relL a _ h2, strip_relL c _ h3⟩
  | .agg cs, v, ⟨cs', h1, h2, h3⟩ => ⟨cs', h1, strip_relL cs _ h2, h3⟩
  | .tup vs, v, ⟨vs', h1, h2⟩ => ⟨vs', h1, strip_relL vs _ h2⟩
  | .any, _, H => H
  | .sc _ _, _, H => H
  | .ep _ _ _ _, _, H => H
  | .rsl _ _ _ _, _, _ => trivial
  | .rp _ _ _ _ _, _, _ => trivial
  | .rw _ _, _, H => H
  | .vsl _ _ _ _ _, _, _ => trivial
  | .al _ _ _ _, _, _ => trivial
  | .ea _, _, _ => trivial
theorem strip_relL {E : Env} : ∀ (xs : List AV) (vs : List Value), RelL E xs vs → RelL E (stripL xs) vs
  | [], _, H => H
  | x :: xs, _, ⟨v, vs', h1, h2, h3⟩ => ⟨v, vs', h1, strip_rel x v h2, strip_relL xs vs' h3⟩
end
def hp0 : Hp := ⟨[], 0, [], 0, 0, 0⟩
/-- nil, where a slice is looked for -/
def nilS : Sh → AV → AV
  | .sl es, .sc _ (.slice none 0 0) => .sl false es (.l []) none
  | _, x => x
def nilL : List Sh → List AV → List AV
  | s :: ss, x :: xs => nilS s x :: nilL ss xs
  | _, xs => xs
def nilA1 (ss : List Sh) : AV → AV
  | .agg cs => .agg (nilL ss cs)
  | x => match ss with | [s] => nilS s x | _ => x
def nilAs : List (List Sh) → List AV → List AV
  | ss :: r, x :: xs => nilA1 ss x :: nilAs r xs
  | _, xs => xs
theorem nilS_rel {E : Env} (s : Sh) (x : AV) (v : Value) (h : Rel E x v) : Rel E (nilS s x) v := by
  unfold nilS
  split
  · obtain ⟨rfl, _⟩ := h
    have h0 : (D.l []).len = 0 := by simp [D.len, D.toL, D.raw]
    exact ⟨⟨by rw [h0, Nat.zero_mul]; exact Nat.zero_le _, none, 0, by rw [h0], by rw [h0]; exact Nat.le_refl _, Nat.zero_le _, fun _ => rfl, fun hn => absurd h0 hn⟩, trivial⟩
  · exact h
theorem nilL_rel {E : Env} : ∀ (ss : List Sh) (xs : List AV) (vs : List Value), RelL E xs vs → RelL E (nilL ss xs) vs
  | [], xs, _, h => by cases xs <;> exact h
  | _ :: _, [], _, h => h
  | s :: ss, x :: xs, _, ⟨v, vs', h1, h2, h3⟩ => ⟨v, vs', h1, nilS_rel s x v h2, nilL_rel ss xs vs' h3⟩
theorem nilA1_rel {E : Env} (ss : List Sh) (x : AV) (v : Value) (h : Rel E x v) : Rel E (nilA1 ss x) v := by
  unfold nilA1
  split
  · obtain ⟨cs, h1, h2, h3⟩ := h
    exact ⟨cs, h1, nilL_rel ss _ _ h2, h3⟩
  · split
    · exact nilS_rel _ _ _ h
    · exact h
theorem nilAs_rel {E : Env} : ∀ (ss : List (List Sh)) (xs : List AV) (vs : List Value), RelL E xs vs → RelL E (nilAs ss xs) vs
  | [], xs, _, h => by cases xs <;> exact h
  | _ :: _, [], _, h => h
  | s :: ss, x :: xs, _, ⟨v, vs', h1, h2, h3⟩ => ⟨v, vs', h1, nilA1_rel s x v h2, nilAs_rel ss xs vs' h3⟩
def argS (P : Program) (f : FuncId) : List (List Sh) := match P.funcs[f]? with | some fn => fn.params.toList.map (shE P) | none => []
/-- what is looked at of arguments -/
def args0 (P : Program) (f : FuncId) (args : List AV) : List AV := nilAs (argS P f) (dullL (stripL args))
theorem args0_rel {P : Program} {f : FuncId} {E : Env} {args : List AV} {vals : List Value} (h : RelL E args vals) : RelL E (args0 P f args) vals := nilAs_rel _ _ _ (dull_relL _ _ (strip_relL _ _ h))
mutual
/-- data, all of it known -/
def knowD : D → D
  | .i v => .ki v | .b v => .kb v | .s v => .ks v
  | .l v => .kl (knowDL v) | .kl v => .kl (knowDL v) | .t v => .t (knowDL v)
  | .n => .n | .ki v => .ki v | .kb v => .kb v | .ks v => .ks v
def knowDL : List D → List D
  | [] => []
  | d :: ds => knowD d :: knowDL ds
end
mutual
def deepK : D → Bool
  | .i _ => false | .b _ => false | .s _ => false | .l _ => false
  | .kl v => deepKL v | .t v => deepKL v
  | .n => true | .ki _ => true | .kb _ => true | .ks _ => true
def deepKL : List D → Bool
  | [] => true
  | d :: ds => deepK d && deepKL ds
end
/-- a slice's elements, all known -/
def deepKS (d : D) : Bool := deepKL d.raw
mutual
/-- whether all of a value is known ahead (a hint alone) -/
def allK : AV → Bool
  | .sc kn _ => kn
  | .sl kn _ d _ => bif kn then deepKS d else false
  | .agg cs => allKL cs
  | _ => false
def allKL : List AV → Bool
  | [] => true
  | x :: xs => bif allK x then allKL xs else false
end
mutual
def knowA : AV → AV
  | .sc _ v => .sc true v
  | .sl _ es d tip => .sl true es (knowD d) tip
  | .agg cs => .agg (knowAL cs)
  | .tup vs => .tup (knowAL vs)
  | .any => .any
  | .ptr o off => .ptr o off
  | .mp o => .mp o
  | .ep kn es d j => .ep kn es d j
  | .fn f a c => .fn f a c
  | .rsl kn o n len => .rsl kn o n len
  | .rp kn o n i j => .rp kn o n i j
  | .rw es d => .rw es d
  | .vsl o off n len cap => .vsl o off n len cap
  | .al n len cs tip => .al n len cs tip
  | .ea cs => .ea cs
def knowAL : List AV → List AV
  | [] => []
  | x :: xs => knowA x :: knowAL xs
end
theorem knowDL_map : ∀ l : List D, knowDL l = l.map knowD
  | [] => rfl
  | _ :: l => by simp only [knowDL, List.map_cons, knowDL_map l]
theorem knowD_toI : ∀ d : D, (knowD d).toI = d.toI := by intro d; cases d <;> rfl
theorem knowD_toB : ∀ d : D, (knowD d).toB = d.toB := by intro d; cases d <;> rfl
theorem knowD_toS : ∀ d : D, (knowD d).toS = d.toS := by intro d; cases d <;> rfl
theorem knowD_toL : ∀ d : D, (knowD d).toL = d.toL.map knowD := by
  intro d
  cases d <;> simp [knowD, D.toL, D.raw, knowDL_map, List.map_take]
theorem knowD_len (d : D) : (knowD d).len = d.len := by unfold D.len; rw [knowD_toL]; simp
theorem knowD_get (d : D) (i : Nat) : (knowD d).get i = knowD (d.get i) := by
  unfold D.get
  rw [knowD_toL, List.getD_eq_getElem?_getD, List.getD_eq_getElem?_getD, List.getElem?_map]
  cases d.toL[i]? <;> rfl
theorem knowD_cell (d : D) (j : Nat) : (knowD d).cell j = knowD (d.cell j) := by
  cases d with
  | t cs =>
    show (D.t (knowDL cs)).cell j = knowD ((D.t cs).cell j)
    simp only [D.cell, knowDL_map, List.getD_eq_getElem?_getD, List.getElem?_map]
    cases cs[j]? <;> rfl
  | _ => cases j <;> rfl
mutual
theorem know_lf {Z : Nat → Nat → Option Value} : ∀ (s : Sh) (v : Value) (d : D), LF Z s v d → LF Z s v (knowD d)
  | .int _, v, d, H => by simp only [LF] at H ⊢; rw [knowD_toI]; exact H
  | .bool, v, d, H => by simp only [LF] at H ⊢; rw [knowD_toB]; exact H
  | .str, v, d, H => by simp only [LF] at H ⊢; rw [knowD_toS]; exact H
  | .sl es, v, d, ⟨h0, ad, cap, h1, h2, h3, h4, h5⟩ => by
    refine ⟨by rw [knowD_len]; exact h0, ad, cap, by rw [knowD_len]; exact h1, by rw [knowD_len]; exact h2, h3, h4, fun hn => ?_⟩
    rw [knowD_len] at hn
    obtain ⟨b, o, h6, h7⟩ := h5 hn
    refine ⟨b, o, h6, fun i hi => ?_⟩
    rw [knowD_len] at hi
    rw [knowD_get]
    exact know_el es _ _ _ _ (h7 i hi)
theorem know_el {Z : Nat → Nat → Option Value} : ∀ (es : List Sh) (b o : Nat) (d : D) (j : Nat), EL Z es b o d j → EL Z es b o (knowD d) j
  | [], _, _, _, _, _ => trivial
  | s :: ss, b, o, d, j, ⟨⟨v, h1, h2⟩, h3⟩ => ⟨⟨v, h1, by rw [knowD_cell]; exact know_lf s v _ h2⟩, know_el ss _ _ _ _ h3⟩
end
mutual
theorem know_rel {E : Env} : ∀ (x : AV) (v : Value), Rel E x v → Rel E (knowA x) v
  | .sc _ _, _, H => H
  | .sl _ es d tip, v, ⟨h1, h2⟩ => ⟨know_lf (.sl es) v d h1, h2⟩
  | .agg cs, v, ⟨cs', h1, h2, h3⟩ => ⟨cs', h1, know_relL cs _ h2, h3⟩
  | .tup vs, v, ⟨vs', h1, h2⟩ => ⟨vs', h1, know_relL vs _ h2⟩
  | .any, _, H => H
  | .ptr _ _, _, H => H
  | .mp _, _, H => H
  | .ep _ _ _ _, _, H => H
  | .rsl _ _ _ _, _, H => H
  | .rp _ _ _ _ _, _, H => H
  | .rw _ _, _, H => H
  | .fn _ _ _, _, H => H
  | .vsl _ _ _ _ _, _, H => H
  | .al _ _ _ _, _, H => H
  | .ea _, _, H => H
theorem know_relL {E : Env} : ∀ (xs : List AV) (vs : List Value), RelL E xs vs → RelL E (knowAL xs) vs
  | [], _, H => H
  | x :: xs, _, ⟨v, vs', h1, h2, h3⟩ => ⟨v, vs', h1, know_rel x v h2, know_relL xs vs' h3⟩
end
/-- a function that reads and answers values: of known ones it answers known ones -/
def pureS (P : Program) (f : FuncId) (F : List AV → RT AV) : Spec := fun args h => (F (args0 P f args)).bind fun r => .ok (bif allKL args then knowA r else r, h)
theorem hp_bak0 (h h' : Hp) : h.bak [] [] 0 h' = h := by
  obtain ⟨a, b, c, d, e, f⟩ := h
  simp [Hp.bak, bakO, bakG]
mutual
/-- data that can be read are bounded -/
def okS : Sh → D → Prop
  | .int _, _ => True
  | .bool, _ => True
  | .str, _ => True
  | .sl es, d => d.len * szB es ≤ room ∧ ∀ i, i < d.len → okE es (d.get i) 0
def okE : List Sh → D → Nat → Prop
  | [], _, _ => True
  | s :: ss, d, j => okS s (d.cell j) ∧ okE ss d (j + 1)
end
mutual
theorem ok_lf {Z : Nat → Nat → Option Value} : ∀ (s : Sh) (v : Value) (d : D), LF Z s v d → okS s d
  | .int _, _, _, _ => trivial
  | .bool, _, _, _ => trivial
  | .str, _, _, _ => trivial
  | .sl es, v, d, ⟨h0, _, _, _, _, _, _, h5⟩ => ⟨h0, fun i hi => by
      obtain ⟨b, o, _, h7⟩ := h5 (by omega)
      exact ok_el es _ _ _ _ (h7 i hi)⟩
theorem ok_el {Z : Nat → Nat → Option Value} : ∀ (es : List Sh) (b o : Nat) (d : D) (j : Nat), EL Z es b o d j → okE es d j
  | [], _, _, _, _, _ => trivial
  | s :: ss, b, o, d, j, ⟨⟨v, _, h2⟩, h3⟩ => ⟨ok_lf s v _ h2, ok_el ss _ _ _ _ h3⟩
end
mutual
def okA : AV → Prop
  | .sl _ es d _ => okS (.sl es) d
  | .agg cs => okL cs
  | .tup vs => okL vs
  | _ => True
def okL : List AV → Prop
  | [] => True
  | x :: xs => okA x ∧ okL xs
end
mutual
theorem ok_rel {E : Env} : ∀ (x : AV) (v : Value), Rel E x v → okA x
  | .sl _ es d _, v, ⟨h, _⟩ => ok_lf (.sl es) v d h
  | .agg cs, _, ⟨cs', _, h, _⟩ => ok_relL cs _ h
  | .tup cs, _, ⟨cs', _, h⟩ => ok_relL cs _ h
  | .any, _, _ => trivial
  | .sc _ _, _, _ => trivial
  | .ptr _ _, _, _ => trivial
  | .mp _, _, _ => trivial
  | .ep _ _ _ _, _, _ => trivial
  | .rsl _ _ _ _, _, _ => trivial
  | .rp _ _ _ _ _, _, _ => trivial
  | .rw _ _, _, _ => trivial
  | .fn _ _ _, _, _ => trivial
  | .vsl _ _ _ _ _, _, _ => trivial
  | .al _ _ _ _, _, _ => trivial
  | .ea _, _, _ => trivial
theorem ok_relL {E : Env} : ∀ (xs : List AV) (vs : List Value), RelL E xs vs → okL xs
  | [], _, _ => trivial
  | x :: xs, _, ⟨v, vs', _, h2, h3⟩ => ⟨ok_rel x v h2, ok_relL xs vs' h3⟩
end
/-- what is told by x is told by y -/
def Le (x y : AV) : Prop := ∀ E v, Rel E x v → Rel E y v
theorem Le.refl (x : AV) : Le x x := fun _ _ h => h
theorem pureS_ok2 {P : Program} {f : FuncId} {sp : Spec} (hs : SoundF P f sp) {F : List AV → RT AV} (hF : ∀ args K, okL args → (F args).holds K → ∃ args', (∀ E vs, RelL E args vs → RelL E args' vs) ∧ (sp args' hp0).holds fun x => ∃ y, Le (strip x.1) y ∧ K y) : SoundF P f (pureS P f F) := by
  intro args h K H w0 G E w vals I hr
  unfold pureS at H
  rw [RT.holds_bind] at H
  obtain ⟨args', hle, h1⟩ := hF _ _ (ok_relL _ _ (args0_rel hr)) H
  have I2 := (I.ren (os := []) (ks := []) (g0 := 0) .nil .nil (by simp) 0).top
  have hr2 := ren_relL (os := []) (ks := []) (g0 := 0) I _ _ hr
  rw [ren_stripL] at hr2
  refine (hs _ _ _ h1 w _ _ w vals I2 (hle _ _ (nilAs_rel _ _ _ (dull_relL _ _ hr2)))).mono ?_
  rintro e w' ⟨r, h', v, E', hK, rfl, S, hv⟩
  have S3 := Inv.bak (mk := 0) I .nil (by simp) .nil (by simp) (Nat.le_refl _) (Nat.zero_le _) S
  rw [hp_bak0] at S3
  have hv3 := bak_rel (h' := h') S.inv S.ext (mk := 0) .nil (by simp) (Nat.zero_le _) (Nat.le_refl _) (by simp) h.ng r v hv
  rw [bak_strip] at hv3
  obtain ⟨y, hy, hK⟩ := hK
  refine ⟨_, h, v, _, hK, rfl, S3, ?_⟩
  cases allKL args
  · exact hy _ _ hv3
  · exact know_rel _ _ (hy _ _ hv3)
theorem pureS_ok {P : Program} {f : FuncId} {sp : Spec} (hs : SoundF P f sp) {F : List AV → RT AV} (hF : ∀ args K, okL args → (F args).holds K → (sp args hp0).holds fun x => ∃ y, Le (strip x.1) y ∧ K y) : SoundF P f (pureS P f F) :=
  pureS_ok2 hs fun args K ho H => ⟨args, fun _ _ h => h, hF args K ho H⟩
theorem pureS_direct {P : Program} {f : FuncId} {F : List AV → RT AV} (hF : ∀ args K, (F args).holds K → ∀ w0 G E h w vals, Inv P w0 G E h w → RelL E args vals → Calls P f vals.toArray w fun e w' => ∃ r v E', K r ∧ e = .returned v ∧ Stepd P w0 G E h w E' h w' ∧ Rel E' r v) : SoundF P f (pureS P f F) := by
  intro args h K H w0 G E w vals I hr
  unfold pureS at H
  rw [RT.holds_bind] at H
  refine (hF _ _ H w0 G E h w vals I (args0_rel hr)).mono ?_
  rintro e w' ⟨r, v, E', hK, rfl, hS, hv⟩
  refine ⟨_, h, v, E', hK, rfl, hS, ?_⟩
  cases allKL args
  · exact hv
  · exact know_rel _ _ hv
/-- the tree of a function -/
def treeF (sp : Spec) (args : List AV) : RT AV := (sp args hp0).bind fun x => .ok (strip x.1)
theorem pureS_tree {P : Program} {f : FuncId} {sp : Spec} (hs : SoundF P f sp) {F : List AV → RT AV} (hF : ∀ args K, okL args → (F args).holds K → (treeF sp args).holds fun r => ∃ y, Le r y ∧ K y) : SoundF P f (pureS P f F) :=
  pureS_ok hs fun args K ho H => by have := hF args K ho H; unfold treeF at this; rw [RT.holds_bind] at this; exact this
theorem pureS_tree2 {P : Program} {f : FuncId} {sp : Spec} (hs : SoundF P f sp) {F : List AV → RT AV} (hF : ∀ args K, okL args → (F args).holds K → ∃ args', (∀ E vs, RelL E args vs → RelL E args' vs) ∧ (treeF sp args').holds fun r => ∃ y, Le r y ∧ K y) : SoundF P f (pureS P f F) :=
  pureS_ok2 hs fun args K ho H => by
    obtain ⟨args', h1, h2⟩ := hF args K ho H
    refine ⟨args', h1, ?_⟩
    unfold treeF at h2
    rw [RT.holds_bind] at h2
    exact h2

/-! What is told by what. -/
theorem le_int {kn kn' : Bool} {k : IntKind} {m n : Int} (h : m = n) : Le (.sc kn (.int k m)) (.sc kn' (.int k n)) := fun E v hv => by subst h; exact hv
theorem le_bool {kn kn' : Bool} {m n : Bool} (h : m = n) : Le (.sc kn (.bool m)) (.sc kn' (.bool n)) := fun E v hv => by subst h; exact hv
theorem le_str {kn kn' : Bool} {m n : ByteArray} (h : m = n) : Le (.sc kn (.string m)) (.sc kn' (.string n)) := fun E v hv => by subst h; exact hv
/-- the same, as the shapes look at it -/
def eqEl : List Sh → D → D → Nat → Prop
  | [], _, _, _ => True
  | .int _ :: ss, d, e, j => (d.cell j).toI = (e.cell j).toI ∧ eqEl ss d e (j + 1)
  | .bool :: ss, d, e, j => (d.cell j).toB = (e.cell j).toB ∧ eqEl ss d e (j + 1)
  | .str :: ss, d, e, j => (d.cell j).toS = (e.cell j).toS ∧ eqEl ss d e (j + 1)
  | .sl _ :: ss, d, e, j => d.cell j = e.cell j ∧ eqEl ss d e (j + 1)
theorem el_eq {Z : Nat → Nat → Option Value} : ∀ {es : List Sh} {b o : Nat} {d e : D} {j : Nat}, eqEl es d e j → EL Z es b o d j → EL Z es b o e j
  | [], _, _, _, _, _, _, _ => trivial
  | .int _ :: ss, _, _, _, _, _, ⟨h1, h2⟩, ⟨⟨v, g1, g2⟩, g3⟩ => ⟨⟨v, g1, by simp only [LF] at g2 ⊢; rw [← h1]; exact g2⟩, el_eq h2 g3⟩
  | .bool :: ss, _, _, _, _, _, ⟨h1, h2⟩, ⟨⟨v, g1, g2⟩, g3⟩ => ⟨⟨v, g1, by simp only [LF] at g2 ⊢; rw [← h1]; exact g2⟩, el_eq h2 g3⟩
  | .str :: ss, _, _, _, _, _, ⟨h1, h2⟩, ⟨⟨v, g1, g2⟩, g3⟩ => ⟨⟨v, g1, by simp only [LF] at g2 ⊢; rw [← h1]; exact g2⟩, el_eq h2 g3⟩
  | .sl _ :: ss, _, _, _, _, _, ⟨h1, h2⟩, ⟨⟨v, g1, g2⟩, g3⟩ => ⟨⟨v, g1, by rw [← h1]; exact g2⟩, el_eq h2 g3⟩
theorem le_sl {kn kn' : Bool} {es : List Sh} {d e : D} {tip : Option (Nat × Nat)} (hl : d.len = e.len) (hg : ∀ i, i < d.len → eqEl es (d.get i) (e.get i) 0) : Le (.sl kn es d tip) (.sl kn' es e none) := fun E v hv => by
  obtain ⟨⟨h0, ad, cap, h1, h2, h3, h4, h5⟩, _⟩ := hv
  refine ⟨⟨by rw [← hl]; exact h0, ad, cap, by rw [← hl]; exact h1, by rw [← hl]; exact h2, h3, h4, fun hn => ?_⟩, trivial⟩
  obtain ⟨b, o, g1, g2⟩ := h5 (by rw [hl]; exact hn)
  exact ⟨b, o, g1, fun i hi => el_eq (hg i (by rw [hl]; exact hi)) (g2 i (by rw [hl]; exact hi))⟩
theorem eqEl_refl : ∀ (es : List Sh) (d : D) (j : Nat), eqEl es d d j
  | [], _, _ => trivial
  | .int _ :: ss, d, j => ⟨rfl, eqEl_refl ss d (j + 1)⟩
  | .bool :: ss, d, j => ⟨rfl, eqEl_refl ss d (j + 1)⟩
  | .str :: ss, d, j => ⟨rfl, eqEl_refl ss d (j + 1)⟩
  | .sl _ :: ss, d, j => ⟨rfl, eqEl_refl ss d (j + 1)⟩
theorem le_nil {kn kn' : Bool} {es : List Sh} {d : D} (h : d.len = 0) : Le (.sc kn (.slice none 0 0)) (.sl kn' es d none) := fun E v hv => by
  obtain ⟨rfl, _⟩ := hv
  exact ⟨⟨by rw [h, Nat.zero_mul]; exact Nat.zero_le _, none, 0, by rw [h], by rw [h]; exact Nat.le_refl _, Nat.zero_le _, fun _ => rfl, fun hn => absurd h hn⟩, trivial⟩
theorem le_agg {xs ys : List AV} (h : ∀ E vs, RelL E xs vs → RelL E ys vs) : Le (.agg xs) (.agg ys) := fun E v ⟨cs, h1, h2, h3⟩ => ⟨cs, h1, h E _ h2, h3⟩
theorem le_tup {xs ys : List AV} (h : ∀ E vs, RelL E xs vs → RelL E ys vs) : Le (.tup xs) (.tup ys) := fun E v ⟨cs, h1, h2⟩ => ⟨cs, h1, h E _ h2⟩
theorem leL_nil : ∀ E vs, RelL E [] vs → RelL E [] vs := fun _ _ h => h
theorem leL_cons {x y : AV} {xs ys : List AV} (h : Le x y) (hs : ∀ E vs, RelL E xs vs → RelL E ys vs) : ∀ E vs, RelL E (x :: xs) vs → RelL E (y :: ys) vs := fun E _ ⟨v, vs', h1, h2, h3⟩ => ⟨v, vs', h1, h E v h2, hs E vs' h3⟩

/-! Loops. -/
section
variable {P : Program} {Γ : FuncId → Option Spec} {Λ : FuncId → Nat → Option BSpec}
def Hp.dul (h : Hp) : Hp := { h with ob := h.ob.map fun p => (p.1, dullL p.2) }
theorem lookO_dul (o : Nat) : ∀ (l : List (Nat × List AV)), lookO o (l.map fun p => (p.1, dullL p.2)) = (lookO o l).map dullL
  | [] => rfl
  | (k, cs) :: l => by
    simp only [List.map_cons, lookO_cons]
    split
    · rfl
    · exact lookO_dul o l
theorem cnt_dul (o : Nat) : ∀ (l : List (Nat × List AV)), cnt o (l.map fun p => (p.1, dullL p.2)) = cnt o l
  | [] => rfl
  | (k, cs) :: l => by simp only [List.map_cons, cnt_cons, cnt_dul o l]
theorem Inv.dul {w0 w : World} {G : Nat → Prop} {E : Env} {h : Hp} (I : Inv P w0 G E h w) : Inv P w0 G E h.dul w := by
  refine ⟨I.kpt, I.m, I.ng, I.gn, I.gnlt, fun o => ?_, I.nx, fun o cs hcs => ?_, I.own, I.inj, I.z, I.zob, I.vec, I.vinj, I.laid⟩
  · rw [I.live o]
    show _ ↔ (lookO o (h.ob.map _)).isSome = true
    rw [lookO_dul]
    cases lookO o h.ob <;> simp
  · have hcs' : lookO o (h.ob.map fun p => (p.1, dullL p.2)) = some cs := hcs
    rw [lookO_dul] at hcs'
    cases hc : lookO o h.ob with
    | none => rw [hc] at hcs'; cases hcs'
    | some c =>
      simp only [hc, Option.map_some, Option.some.injEq] at hcs'
      subst hcs'
      obtain ⟨vs, t, g1, g2, g3⟩ := I.ob o c hc
      exact ⟨vs, t, g1, dull_relL _ _ g2, g3⟩
/-- the heap under the old names: objects below p, slices below q; stamps from N on -/
def Hp.can (h : Hp) (p q N ep : Nat) : Hp := (h.ren (List.range p) (List.range q) N ep).dul
def Tm.can (F : Tm) (h : Hp) (keep : List Nat) (p q N : Nat) : Tm := ⟨F.nt, keep.map fun t => (t, dull (ren (List.range p) (List.range q) N h.gn (look t F.tm))), F.df.map fun x => (x.1, dullL (renL (List.range p) (List.range q) N h.gn x.2))⟩
theorem look_keep {f : Nat → AV} : ∀ (l : List Nat) (t : Nat), look t (l.map fun t => (t, f t)) = if t ∈ l then f t else .any
  | [], t => by simp [look_nil]
  | k :: l, t => by
    simp only [List.map_cons, look_cons, look_keep l t]
    cases hb : Nat.beq k t
    · have : t ≠ k := fun e => by rw [e] at hb; simp at hb
      simp [this]
    · obtain rfl := Nat.eq_of_beq_eq_true hb; simp
theorem relD_map {E E' : Env} {f : List AV → List AV} (hf : ∀ xs vs, RelL E xs vs → RelL E' (f xs) vs) : ∀ {l : List (FuncId × List AV)} {ds : List Deferred}, RelD E l ds → RelD E' (l.map fun x => (x.1, f x.2)) ds
  | [], _, h => h
  | (g, xs) :: r, _, ⟨cap, args, ds', h1, h2, h3⟩ => ⟨cap, args, ds', h1, hf _ _ h2, relD_map hf h3⟩
theorem Tm.can_ok {w0 w : World} {G : Nat → Prop} {E : Env} {h : Hp} {F : Tm} {t : Act} (I : Inv P w0 G E h w) (hT : RelT E F t) (keep : List Nat) (p q N : Nat) : RelT (E.ren (List.range p) (List.range q) N) (F.can h keep p q N) t := by
  refine ⟨hT.sz, fun i => ?_, hT.df.1, relD_map (fun xs vs hr => dull_relL _ _ (ren_relL I xs vs hr)) hT.df.2⟩
  show Rel _ (look i (keep.map fun t => (t, dull (ren (List.range p) (List.range q) N h.gn (look t F.tm))))) _
  rw [look_keep]
  split
  · exact dull_rel _ _ (ren_rel I _ _ (hT.tm i))
  · exact trivial
theorem can_step {w0 we w : World} {G : Nat → Prop} {Ee E : Env} {he h : Hp} (S : Stepd P w0 G Ee he we E h w) (Ie : Inv P w0 G Ee he we) {p q N ep : Nat} (hp : he.nx ≤ p) (hq : he.nv ≤ q) (hqh : q ≤ h.nv) (hN : he.ng ≤ N) (hep : ∀ o, Ee.live o → ver o he < ep) :
    Stepd P w0 G Ee he we (E.ren (List.range p) (List.range q) N) (h.can p q N ep) w := by
  have gr : ∀ {n i : Nat}, i < n → (List.range n)[i]? = some i := fun h => List.getElem?_range h
  have I2 := (S.inv.ren (os := List.range p) (ks := List.range q) (g0 := N) List.nodup_range List.nodup_range (fun k hk => by have := List.mem_range.1 hk; omega) ep).dul
  refine ⟨⟨fun o ho => ⟨o, gr (by have := Ie.nx o ho; omega), S.ext.live o ho⟩, fun o ho => ?_, S.ext.Z, ?_, ?_, fun k hk => .inr ?_, S.ext.yl⟩, I2, fun o ho => ⟨?_, fun e => ?_⟩, S.zn⟩
  · show E.β ((List.range p).getD o 0) = Ee.β o
    rw [gdp (gr (by have := Ie.nx o ho; omega))]; exact S.ext.β o ho
  · show Ee.m ≤ (List.range q).length
    rw [List.length_range, Ie.m]; exact hq
  · show Ee.ng ≤ N + (List.range q).length
    rw [Ie.ng]; omega
  · show Ee.ng ≤ N + k
    rw [Ie.ng]; omega
  · have := hep o ho; unfold ver at this ⊢; show _ ≤ ep + _; omega
  · have := hep o ho
    unfold ver at this e
    have e' : ep + cnt o (h.can p q N ep).ob = he.ep + cnt o he.ob := e
    omega
/-- what may come behind a round: on with x', or out -/
def RoundOk {α : Type} (mkF : α → Tm) (mkH : α → Hp) (T : α → RT Out) (μ : α → Nat) (id : Nat) (keep : List Nat) (p q N ep : Nat) (x : α) (K : Out → Prop) (r : Out) : Prop :=
  q ≤ r.2.2.nv ∧ match r.1 with
  | .normal => ∃ x', (r.2.1.can r.2.2 keep p q N = mkF x' ∧ r.2.2.can p q N ep = mkH x') ∧ μ x' < μ x ∧ (T x').holds K
  | .exit j => if j = id then K (.normal, r.2.1.can r.2.2 keep p q N, r.2.2.can p q N ep) else K (.exit j, r.2.1.can r.2.2 keep p q N, r.2.2.can p q N ep)
  | .ret => K (.ret, r.2.1.can r.2.2 keep p q N, r.2.2.can p q N ep)
theorem cnt_le (o : Nat) : ∀ (l : List (Nat × List AV)), cnt o l ≤ l.length
  | [] => Nat.le_refl _
  | (k, cs) :: l => by
    rw [cnt_cons]
    have := cnt_le o l
    simp only [List.length_cons]
    split <;> omega
/-- a slice that is nil may grow -/
def proT (P : Program) (e : TypeId) (t : Nat) (s : Tm × Hp) : Tm × Hp :=
  match look t s.1.tm, sizeT P e with
  | .sc _ (.slice none 0 0), some _ => ({ s.1 with tm := (t, .sl false (shE P e) (.l []) (some (s.2.nv, s.2.ng))) :: s.1.tm }, { s.2 with gn := (s.2.nv, s.2.ng, e) :: s.2.gn, nv := s.2.nv + 1, ng := s.2.ng + 1 })
  | _, _ => s
theorem vec_nil {w0 w : World} {G : Nat → Prop} {E : Env} {h : Hp} {e sz : Nat} (I : Inv P w0 G E h w) (hs : sizeT P e = some sz) :
    ∃ E', Stepd P w0 G E h w E' { h with gn := (h.nv, h.ng, e) :: h.gn, nv := h.nv + 1, ng := h.ng + 1 } w ∧ Rel E' (.sl false (shE P e) (.l []) (some (h.nv, h.ng))) (.slice none 0 0) := by
  have hst := I.vec_set (v := .slice none 0 0) (v' := .slice none 0 0) (k := h.nv) (m := h.nv + 1) (xs := []) (news := []) (n' := 0) (.inr ⟨rfl, rfl, rfl⟩) (fun b hb => by cases hb) hs ⟨by simp, .inl ⟨rfl, rfl⟩⟩ (by simp) (Kpt.refl w _) (.inl rfl)
  have h0 : (D.l []).len = 0 := by simp [D.len, D.toL, D.raw]
  refine ⟨_, hst, ⟨by rw [h0, Nat.zero_mul]; exact Nat.zero_le _, none, 0, by rw [h0], by rw [h0]; exact Nat.le_refl _, Nat.zero_le _, fun _ => rfl, fun hn => absurd h0 hn⟩, ?_, ?_, fun _ => ?_⟩
  · show h.nv < h.nv + 1; omega
  · show h.ng < h.ng + 1; omega
  · simp [Env.grow]
theorem proT_ok {w0 w : World} {G : Nat → Prop} {E : Env} {e t : Nat} {F : Tm} {h : Hp} {a : Act} (I : Inv P w0 G E h w) (hT : RelT E F a) : ∃ E', Stepd P w0 G E h w E' (proT P e t (F, h)).2 w ∧ RelT E' (proT P e t (F, h)).1 a := by
  unfold proT
  split
  · rename_i kn sz hl hs
    obtain ⟨E', h1, h2⟩ := vec_nil I hs
    refine ⟨E', h1, ⟨hT.sz, fun i => ?_, hT.df.mono h1.ext⟩⟩
    have hv := hT.tm t
    rw [show look t F.tm = .sc kn (.slice none 0 0) from hl] at hv
    simp only [look_cons]
    cases hb : Nat.beq t i
    · exact Rel.mono h1.ext _ _ (hT.tm i)
    · obtain rfl := Nat.eq_of_beq_eq_true hb
      rw [hv.1]; exact h2
  · exact ⟨E, Stepd.refl I, hT⟩
/-- a cell of a variable that is nil may grow -/
def proO (P : Program) (e : TypeId) (o i : Nat) (s : Tm × Hp) : Tm × Hp :=
  match lookO o s.2.ob, sizeT P e with
  | some cs, some _ => match cs[i]? with
    | some (.sc _ (.slice none 0 0)) => (s.1, { s.2 with ob := (o, cs.set i (.sl false (shE P e) (.l []) (some (s.2.nv, s.2.ng)))) :: s.2.ob, gn := (s.2.nv, s.2.ng, e) :: s.2.gn, nv := s.2.nv + 1, ng := s.2.ng + 1 })
    | _ => s
  | _, _ => s
theorem RelL.set {E : Env} : ∀ {xs : List AV} {vs : List Value} {i : Nat} {x : AV} {v : Value}, RelL E xs vs → vs[i]? = some v → Rel E x v → RelL E (xs.set i x) vs
  | [], _, _, _, _, h, _, _ => h
  | y :: xs, _, i, x, v, ⟨u, vs', h, h1, h2⟩, hv, hx => by
    subst h
    cases i with
    | zero => simp at hv; subst hv; exact ⟨u, vs', rfl, hx, h2⟩
    | succ i => exact ⟨u, vs', rfl, h1, RelL.set h2 (by simpa using hv) hx⟩
theorem Inv.say {w0 w : World} {G : Nat → Prop} {E : Env} {h : Hp} (I : Inv P w0 G E h w) {o : Nat} {cs cs' : List AV} (ho : lookO o h.ob = some cs) (hr : ∀ vs, RelL E cs vs → RelL E cs' vs) : Stepd P w0 G E h w E { h with ob := (o, cs') :: h.ob } w := by
  obtain ⟨vs, t, g1, g2, g3⟩ := I.ob o cs ho
  exact I.put ho (Kpt.refl w _) g1 (hr vs g2) g3
theorem proO_ok {w0 w : World} {G : Nat → Prop} {E : Env} {e o i : Nat} {F : Tm} {h : Hp} {a : Act} (I : Inv P w0 G E h w) (hT : RelT E F a) : ∃ E', Stepd P w0 G E h w E' (proO P e o i (F, h)).2 w ∧ RelT E' (proO P e o i (F, h)).1 a := by
  unfold proO
  split
  · rename_i cs sz hl hs
    split
    · rename_i kn hc
      obtain ⟨E', h1, h2⟩ := vec_nil I hs
      have hl' : lookO o h.ob = some cs := hl
      have S2 := h1.inv.say (o := o) (cs := cs) (cs' := cs.set i (.sl false (shE P e) (.l []) (some (h.nv, h.ng)))) hl' (fun vs hr => by
        obtain ⟨v, hv, hrv⟩ := hr.get hc
        rw [hrv.1] at hv
        exact hr.set hv h2)
      exact ⟨E', h1.trans S2, hT.mono h1.ext⟩
    · exact ⟨E, Stepd.refl I, hT⟩
  · exact ⟨E, Stepd.refl I, hT⟩
/-- a row of promises that slices may grow: (0, t, _, e): a temporary; (1, o, i, e): a variable's cell -/
def proL (P : Program) : List (Bool × Nat × Nat × TypeId) → Tm × Hp → Tm × Hp
  | [], s => s
  | (false, t, _, e) :: r, s => proL P r (proT P e t s)
  | (true, o, i, e) :: r, s => proL P r (proO P e o i s)
theorem proL_ok {w0 w : World} {G : Nat → Prop} {a : Act} : ∀ (l : List (Bool × Nat × Nat × TypeId)) {E : Env} {F : Tm} {h : Hp}, Inv P w0 G E h w → RelT E F a → ∃ E', Stepd P w0 G E h w E' (proL P l (F, h)).2 w ∧ RelT E' (proL P l (F, h)).1 a
  | [], E, F, h, I, hT => ⟨E, Stepd.refl I, hT⟩
  | (false, t, _, e) :: r, E, F, h, I, hT => by
    obtain ⟨E1, h1, h2⟩ := proT_ok (e := e) (t := t) I hT
    obtain ⟨E2, h3, h4⟩ := proL_ok r h1.inv h2
    exact ⟨E2, h1.trans h3, h4⟩
  | (true, o, i, e) :: r, E, F, h, I, hT => by
    obtain ⟨E1, h1, h2⟩ := proO_ok (e := e) (o := o) (i := i) I hT
    obtain ⟨E2, h3, h4⟩ := proL_ok r h1.inv h2
    exact ⟨E2, h1.trans h3, h4⟩
/-- a loop's words: what is kept, how the heap's parts are numbered -/
structure Lw where
  keep : List Nat
  pro : List (Bool × Nat × Nat × TypeId)
  p : Nat
  q : Nat
  N : Nat
  ep : Nat
def Lw.in (L : Lw) (P : Program) (F : Tm) (h : Hp) : Tm × Hp := let s := proL P L.pro (F, h); (s.1.can s.2 L.keep L.p L.q L.N, s.2.can L.p L.q L.N L.ep)
def Lw.fits (L : Lw) (P : Program) (F : Tm) (h : Hp) : Bool := Nat.ble h.nx L.p && Nat.ble h.nv L.q && Nat.ble h.ng L.N && Nat.blt (h.ep + h.ob.length) L.ep && Nat.beq (proL P L.pro (F, h)).2.nv L.q
/-- what a loop does, from what it is entered with -/
def loopS {α : Type} (P : Program) (L : Lw) (dec : Tm → Hp → Option α) (T : α → RT Out) : BSpec := fun F h =>
  bif L.fits P F h then (match dec (L.in P F h).1 (L.in P F h).2 with | some x => T x | none => .bad 120) else .bad 121
theorem loop_ok {α : Type} (hm : Fit P) (hΓ : GamOk P Γ) (hΛ : LamAll P Λ) {f : FuncId} {id n : Nat} {b : Code} (hL : LamOk P Λ f b) (L : Lw) {mkF : α → Tm} {mkH : α → Hp} {dec : Tm → Hp → Option α} {T : α → RT Out} (μ : α → Nat)
    (hdec : ∀ F h x, dec F h = some x → F = mkF x ∧ h = mkH x)
    (hbody : ∀ x K, (T x).holds K → (evC P Γ Λ n f b (mkF x) (mkH x)).holds (RoundOk mkF mkH T μ id L.keep L.p L.q L.N L.ep x K)) : BOk P (.block id (.loop b)) (loopS P L dec T) := by
  intro F h K H w0 G E w a Q I hT hp
  unfold loopS at H
  cases hfit : L.fits P F h
  · rw [hfit] at H; exact H.elim
  rw [hfit] at H
  simp only [cond_true] at H
  split at H
  · rename_i x hx
    obtain ⟨hF, hH⟩ := hdec _ _ _ hx
    unfold Lw.fits at hfit
    simp only [Bool.and_eq_true] at hfit
    obtain ⟨⟨⟨⟨f1, f2⟩, f3⟩, f4⟩, f5⟩ := hfit
    have f1 := Nat.le_of_ble_eq_true f1
    have f2 := Nat.le_of_ble_eq_true f2
    have f3 := Nat.le_of_ble_eq_true f3
    have f4 : h.ep + h.ob.length < L.ep := Nat.le_of_ble_eq_true f4
    have f5 := Nat.eq_of_beq_eq_true f5
    have hep : ∀ o, E.live o → ver o h < L.ep := fun o _ => by
      unfold ver; have := cnt_le o h.ob; omega
    obtain ⟨E1, S1, hT1⟩ := proL_ok (a := a) L.pro I hT
    have S2 := can_step S1 I (p := L.p) (q := L.q) (N := L.N) (ep := L.ep) f1 f2 (by rw [f5]; exact Nat.le_refl _) f3 hep
    have hT2 := Tm.can_ok S1.inv hT1 L.keep L.p L.q L.N
    have e1 : (proL P L.pro (F, h)).1.can (proL P L.pro (F, h)).2 L.keep L.p L.q L.N = mkF x := hF
    have e2 : (proL P L.pro (F, h)).2.can L.p L.q L.N L.ep = mkH x := hH
    rw [e2] at S2
    rw [e1] at hT2
    -- the rounds
    have rounds : ∀ m x, μ x < m → (T x).holds K → ∀ (E2 : Env) (w2 : World) (a2 : Act), Stepd P w0 G E h w E2 (mkH x) w2 → RelT E2 (mkF x) a2 → Code.rounds P b (Exit.inBlock id Q) m a2 w2 := by
      intro m
      induction m with
      | zero => intro x hx; omega
      | succ m ih =>
        intro x hmx HT E2 w2 a2 S3 hT3
        rw [rounds_succ]
        refine ((codeOk hm hΓ hΛ n).1 f b _ _ _ (hbody x K HT) hL w0 G E2 w2 a2 _ S3.inv hT3 ?_)
        intro ex F' h' E' a' w' hk hs hT'
        obtain ⟨hq, hk⟩ := hk
        have S4 := S3.trans hs
        have S5 := can_step S4 I (p := L.p) (q := L.q) (N := L.N) (ep := L.ep) f1 f2 hq f3 hep
        have hT5 := Tm.can_ok hs.inv hT' L.keep L.p L.q L.N
        cases ex with
        | normal =>
          obtain ⟨x', ⟨g1, g2⟩, g3, g4⟩ := hk
          have g1' : F'.can h' L.keep L.p L.q L.N = mkF x' := g1
          have g2' : h'.can L.p L.q L.N L.ep = mkH x' := g2
          rw [g2'] at S5
          rw [g1'] at hT5
          exact ih x' (by omega) g4 _ _ _ S5 hT5
        | exit j =>
          show Exit.inBlock id Q (.exit j) a' w'
          simp only [Exit.inBlock]
          simp only at hk
          split
          · rename_i e
            rw [if_pos e] at hk
            exact hp .normal _ _ _ _ _ hk S5 hT5
          · rename_i e
            rw [if_neg e] at hk
            exact hp (.exit j) _ _ _ _ _ hk S5 hT5
        | ret => exact hp .ret _ _ _ _ _ hk S5 hT5
    exact wp_block (wp_loop_rounds (μ x + 1) (rounds _ x (Nat.lt_succ_self _) H _ _ _ S2 hT2))
  · exact H.elim
end
end
end Go.Proofs.YtomblhnchdokmaaGreatDoor

namespace Go.Proofs.YtomblhnchdokmaaGreatDoor
set_option linter.unusedSimpArgs false
set_option linter.unusedVariables false
open Go.RowKit
set_option maxRecDepth 10000
noncomputable section

/-- a table of contracts -/
def gam : List (FuncId × Spec) → FuncId → Option Spec
  | [], _ => none
  | (g, sp) :: r, f => bif Nat.beq g f then some sp else gam r f
def GamL (P : Program) : List (FuncId × Spec) → Prop
  | [] => True
  | (g, sp) :: r => SoundF P g sp ∧ GamL P r
theorem gam_ok {P : Program} : ∀ {l : List (FuncId × Spec)}, GamL P l → GamOk P (gam l)
  | [], _, g, sp, h => by cases h
  | (k, s) :: r, ⟨h1, h2⟩, g, sp, h => by
    simp only [gam] at h
    cases hb : Nat.beq k g
    · rw [hb] at h; exact gam_ok h2 g sp h
    · rw [hb] at h
      cases h
      obtain rfl := Nat.eq_of_beq_eq_true hb
      exact h1
/-- a table of loops -/
def lam : List (FuncId × Nat × BSpec) → FuncId → Nat → Option BSpec
  | [], _, _ => none
  | (g, i, sp) :: r, f, id => bif Nat.beq g f && Nat.beq i id then some sp else lam r f id
def LamE (P : Program) (f : FuncId) (id : Nat) (sp : BSpec) : Prop := ∀ fn b, plainF P f = some (fn, b) → ∀ c ∈ blocksOf id b, BOk P c sp
def LamL (P : Program) : List (FuncId × Nat × BSpec) → Prop
  | [] => True
  | (g, i, sp) :: r => LamE P g i sp ∧ LamL P r
theorem lam_ok {P : Program} : ∀ {l : List (FuncId × Nat × BSpec)}, LamL P l → LamAll P (lam l)
  | [], _, f, fn, b, _, id, sp, h => by cases h
  | (k, i, s) :: r, ⟨h1, h2⟩, f, fn, b, hp, id, sp, h => by
    simp only [lam] at h
    cases hb : Nat.beq k f && Nat.beq i id
    · rw [hb] at h; exact lam_ok h2 f fn b hp id sp h
    · rw [hb] at h
      cases h
      simp only [Bool.and_eq_true] at hb
      obtain rfl := Nat.eq_of_beq_eq_true hb.1
      obtain rfl := Nat.eq_of_beq_eq_true hb.2
      exact h1 fn b hp
def bodyOf (P : Program) (f : FuncId) : Code := match plainF P f with | some (_, b) => b | none => .skip
def loopAt (id : Nat) (c : Code) : Code := match blocksOf id c with | [.block _ (.loop b)] => b | _ => .skip
def isLoop (id : Nat) (c : Code) : Bool := match blocksOf id c with | [.block j (.loop _)] => Nat.beq j id | _ => false
theorem isLoop_ok {id : Nat} {c : Code} (h : isLoop id c = true) : blocksOf id c = [.block id (.loop (loopAt id c))] := by
  unfold isLoop at h
  unfold loopAt
  split at h
  · rename_i j b hb
    obtain rfl := Nat.eq_of_beq_eq_true h
    rw [hb]
  · cases h
theorem blocks_in {id i : Nat} {x : Code} : ∀ {c b : Code}, .block id b ∈ blocksOf id c → x ∈ blocksOf i b → x ∈ blocksOf i c
  | .seq p q, b, h, hx => by
    simp only [blocksOf, List.mem_append] at h ⊢
    exact h.imp (fun h => blocks_in h hx) (fun h => blocks_in h hx)
  | .cond _ p q, b, h, hx => by
    simp only [blocksOf, List.mem_append] at h ⊢
    exact h.imp (fun h => blocks_in h hx) (fun h => blocks_in h hx)
  | .loop p, b, h, hx => by simp only [blocksOf] at h ⊢; exact blocks_in h hx
  | .scope p, b, h, hx => by simp only [blocksOf] at h ⊢; exact blocks_in h hx
  | .block j p, b, h, hx => by
    simp only [blocksOf, List.mem_append] at h ⊢
    right
    rcases h with h | h
    · split at h
      · simp at h; obtain ⟨_, rfl⟩ := h; exact hx
      · simp at h
    · exact blocks_in h hx
  | .skip, _, h, _ | .region _ _ _, _, h, _ | .rangeFunc _ _ _ _, _, h, _ | .exit _, _, h, _ | .label _, _, h, _ | .goto _, _, h, _ | .ret, _, h, _ | .refuse _, _, h, _ => by simp [blocksOf] at h
theorem loop_in {P : Program} {gs : List (FuncId × Spec)} {ls : List (FuncId × Nat × BSpec)} {α : Type} (hm : Fit P) (hΓ : GamL P gs) (hΛ : LamL P ls) (f id n : Nat) (hl : isLoop id (bodyOf P f) = true) (L : Lw) {mkF : α → Tm} {mkH : α → Hp} {dec : Tm → Hp → Option α} {T : α → RT Out} (μ : α → Nat)
    (hdec : ∀ F h x, dec F h = some x → F = mkF x ∧ h = mkH x)
    (hbody : ∀ x K, (T x).holds K → (evC P (gam gs) (lam ls) n f (loopAt id (bodyOf P f)) (mkF x) (mkH x)).holds (RoundOk mkF mkH T μ id L.keep L.p L.q L.N L.ep x K)) : LamE P f id (loopS P L dec T) := by
  intro fn b hp c hc
  have hb : bodyOf P f = b := by unfold bodyOf; rw [hp]
  rw [hb] at hl hbody
  have hbl := isLoop_ok hl
  rw [hbl] at hc
  obtain rfl := List.mem_singleton.1 hc
  refine loop_ok hm (gam_ok hΓ) (lam_ok hΛ) (fun i sp hs x hx => lam_ok hΛ f fn b hp i sp hs x (blocks_in (id := id) (b := .loop (loopAt id b)) (by rw [hbl]; exact List.mem_singleton_self _) (by simpa only [blocksOf] using hx))) L μ hdec hbody
/-- a round, what it leaves under the old names -/
def roundT (L : Lw) (t : RT Out) : RT Out := t.bind fun r => bif Nat.ble L.q r.2.2.nv then .ok (r.1, r.2.1.can r.2.2 L.keep L.p L.q L.N, r.2.2.can L.p L.q L.N L.ep) else .bad 122
/-- behind a round: on with x', or out -/
def Round {α : Type} (mkF : α → Tm) (mkH : α → Hp) (T : α → RT Out) (μ : α → Nat) (id : Nat) (x : α) (K : Out → Prop) (r : Out) : Prop :=
  match r.1 with
  | .normal => ∃ x', (r.2.1 = mkF x' ∧ r.2.2 = mkH x') ∧ μ x' < μ x ∧ (T x').holds K
  | .exit j => if j = id then K (.normal, r.2.1, r.2.2) else K (.exit j, r.2.1, r.2.2)
  | .ret => K (.ret, r.2.1, r.2.2)
theorem loop_in2 {P : Program} {gs : List (FuncId × Spec)} {ls : List (FuncId × Nat × BSpec)} {α : Type} (hm : Fit P) (hΓ : GamL P gs) (hΛ : LamL P ls) (f id n : Nat) (hl : isLoop id (bodyOf P f) = true) (L : Lw) {mkF : α → Tm} {mkH : α → Hp} {dec : Tm → Hp → Option α} {T : α → RT Out} (μ : α → Nat)
    (hdec : ∀ F h x, dec F h = some x → F = mkF x ∧ h = mkH x)
    (hbody : ∀ x K, (T x).holds K → (roundT L (evC P (gam gs) (lam ls) n f (loopAt id (bodyOf P f)) (mkF x) (mkH x))).holds (Round mkF mkH T μ id x K)) : LamE P f id (loopS P L dec T) := by
  refine loop_in hm hΓ hΛ f id n hl L μ hdec fun x K H => ?_
  have := hbody x K H
  unfold roundT at this
  rw [RT.holds_bind] at this
  refine RT.holds_mono (fun r hr => ?_) _ this
  cases hq : Nat.ble L.q r.2.2.nv
  · rw [hq] at hr; exact hr.elim
  · rw [hq] at hr
    refine ⟨Nat.le_of_ble_eq_true hq, ?_⟩
    have hr' : Round mkF mkH T μ id x K (r.1, r.2.1.can r.2.2 L.keep L.p L.q L.N, r.2.2.can L.p L.q L.N L.ep) := hr
    unfold Round at hr'
    split at hr' <;> rename_i he <;> simp only at he <;> simp only [he] <;> exact hr'
/-- a pure function's contract -/
theorem pure_in {P : Program} {gs : List (FuncId × Spec)} {ls : List (FuncId × Nat × BSpec)} (hm : Fit P) (hΓ : GamL P gs) (hΛ : LamL P ls) (f n : Nat) {F : List AV → RT AV} (hF : ∀ args K, okL args → (F args).holds K → (treeF (evF P (gam gs) (lam ls) n f) args).holds fun r => ∃ y, Le r y ∧ K y) : SoundF P f (pureS P f F) :=
  pureS_tree (evF_ok hm (gam_ok hΓ) (lam_ok hΛ) n f) hF
/-- one contract or the other -/
def altS (c : List AV → Bool) (s1 s2 : Spec) : Spec := fun args h => bif c args then s1 args h else s2 args h
theorem alt_ok {P : Program} {f : FuncId} {c : List AV → Bool} {s1 s2 : Spec} (h1 : SoundF P f s1) (h2 : SoundF P f s2) : SoundF P f (altS c s1 s2) := by
  intro args h K H
  unfold altS at H
  cases hc : c args
  · rw [hc] at H; exact h2 args h K H
  · rw [hc] at H; exact h1 args h K H
/-- the first argument is a slice whose structure is known -/
def head1 : List AV → Bool
  | .sl kn _ _ _ :: _ => kn
  | .sc kn (.slice _ _ _) :: _ => kn
  | _ => false
/-- the same, arguments seen otherwise -/
theorem pure_by {P : Program} {gs : List (FuncId × Spec)} {ls : List (FuncId × Nat × BSpec)} (hm : Fit P) (hΓ : GamL P gs) (hΛ : LamL P ls) (f n : Nat) {F : List AV → RT AV} (hF : ∀ args K, okL args → (F args).holds K → ∃ args', (∀ E vs, RelL E args vs → RelL E args' vs) ∧ (treeF (evF P (gam gs) (lam ls) n f) args').holds fun r => ∃ y, Le r y ∧ K y) : SoundF P f (pureS P f F) :=
  pureS_tree2 (evF_ok hm (gam_ok hΓ) (lam_ok hΛ) n f) hF
end
end Go.Proofs.YtomblhnchdokmaaGreatDoor

namespace Go.Proofs.YtomblhnchdokmaaGreatDoor
set_option linter.unusedSimpArgs false
set_option linter.unusedVariables false
open Go.RowKit
set_option maxRecDepth 10000
noncomputable section
section
variable {P : Program} {E : Env} {h : Hp} {w w0 w' : World} {G : Nat → Prop}

/-- bytes as data -/
def eB (b : UInt8) : D := .i b.toNat
def eBs (l : List UInt8) : D := .l (l.map eB)
theorem toL_eBs {l : List UInt8} (h : l.length ≤ maxLen) : (eBs l).toL = l.map eB := toL_l (by simpa using h)
theorem len_eBs {l : List UInt8} (h : l.length ≤ maxLen) : (eBs l).len = l.length := by unfold D.len; rw [toL_eBs h]; simp
/-- a row of bytes of one's own -/
theorem own_bytesE (I : Inv P w0 G E h w) {e : TypeId} {v : Value} {n : Nat} {l : List UInt8} (hb : Below w.heap.size w w') (ho : w'.ownsRow w.heap.size e 1 v n (l.map bv)) (hrm : l.length ≤ room) :
    ∃ E', Stepd P w0 G E h w E' h w' ∧ Rel E' (.sl false [.int .u8] (eBs l) none) v := by
  refine ⟨_, I.fresh hb, ?_, trivial⟩
  have hn : n = l.length := by have := ho.1; simp at this; omega
  rcases ho.2 with ⟨rfl, h0⟩ | ⟨g, cap, cur, rfl, h0, hg, h1, h2, h3, h4⟩
  · have hl : l = [] := List.eq_nil_of_length_eq_zero (by omega)
    subst hl
    have h0' : (eBs []).len = 0 := by simp [eBs, D.len, D.toL, D.raw]
    exact ⟨by rw [h0', Nat.zero_mul]; exact Nat.zero_le _, none, 0, by rw [h0'], by rw [h0']; exact Nat.le_refl _, Nat.zero_le _, fun _ => rfl, fun hn => absurd h0' hn⟩
  · have hlm : l.length ≤ maxLen := by omega
    have hlen := len_eBs hlm
    refine ⟨by rw [hlen, show szB [.int .u8] = 1 from by decide, Nat.mul_one]; exact hrm, some ⟨g, 0, none⟩, cap, by rw [hlen, hn], by rw [hlen]; omega, h2, (fun h => by cases h), fun _ => ⟨g, 0, rfl, fun i hi => ⟨⟨bv (l[i]?.getD 0), ?_, ?_⟩, trivial⟩⟩⟩
    · rw [hlen] at hi
      show (if g < w.heap.size then E.Z g _ else w'.cell? ⟨g, _, none⟩) = _
      rw [if_neg (by omega), cell_of_row w' g _ _ _ _ hg]
      simp only [List.length_cons, List.length_nil, Nat.zero_add, Nat.mul_one]
      have : (l.map bv)[i]? = some (bv (l[i]?.getD 0)) := by simp [hi]
      rw [← h4, List.getElem?_take_of_lt (by omega)] at this
      simpa using this
    · rw [hlen] at hi
      show bv _ = .int .u8 (((eBs l).get i).cell 0).toI
      unfold D.get
      rw [toL_eBs hlm]
      simp [hi, eB, D.cell, D.toI, bv]
/-- bytes that are read -/
theorem bytes_of (I : Inv P w0 G E h w) {v : Value} {d : D} (hl : LF E.Z (.sl [.int .u8]) v d) (hr : ∀ i, i < d.len → 0 ≤ ((d.get i).cell 0).toI ∧ ((d.get i).cell 0).toI < 256) : IsBytes w v (d.toL.map fun e => UInt8.ofNat (e.cell 0).toI.toNat) := by
  obtain ⟨_, ad, cap, rfl, h1, h2, h3, h4⟩ := hl
  by_cases h0 : d.len = 0
  · have ht : d.toL = [] := List.eq_nil_of_length_eq_zero h0
    rw [ht, h0]
    cases ad with
    | none => have := h3 rfl; subst this; exact .inl ⟨rfl, rfl⟩
    | some x => exact .inr ⟨x, cap, rfl, Nat.zero_le _, h2, fun i hi => by simp at hi⟩
  · obtain ⟨b, o, rfl, h5⟩ := h4 h0
    have hlen : (d.toL.map fun e => UInt8.ofNat (e.cell 0).toI.toNat).length = d.len := by simp [D.len]
    refine .inr ⟨⟨b, o, none⟩, cap, by rw [hlen], by rw [hlen]; exact h1, h2, fun i hi => ?_⟩
    rw [hlen] at hi
    obtain ⟨⟨u, g1, g2⟩, _⟩ := h5 i hi
    simp only [List.length_cons, List.length_nil, Nat.zero_add, Nat.mul_one] at g1
    rw [addr_add', I.z _ _ _ g1]
    have g2' : u = .int .u8 ((d.get i).cell 0).toI := g2
    rw [g2']
    have hi' : i < d.toL.length := hi
    have hg : d.get i = d.toL[i] := by unfold D.get; rw [List.getD_eq_getElem?_getD, List.getElem?_eq_getElem hi']; rfl
    obtain ⟨r1, r2⟩ := hr i hi
    rw [hg] at r1 r2 ⊢
    simp only [List.getElem?_map, List.getElem?_eq_getElem hi', Option.map_some, Option.getD_some]
    congr 2
    rw [UInt8.toNat_ofNat']
    omega
end
end
end Go.Proofs.YtomblhnchdokmaaGreatDoor

namespace Go.Proofs.YtomblhnchdokmaaGreatDoor
set_option linter.unusedSimpArgs false
set_option linter.unusedVariables false
open Go.RowKit
set_option maxRecDepth 10000
noncomputable section
/-- a cell's shape, where it is data -/
def shC : AV → Option Sh
  | .sc _ (.int k _) => some (.int k)
  | .sc _ (.bool _) => some .bool
  | .sc _ (.string _) => some .str
  | .sl _ es _ _ => some (.sl es)
  | _ => none
def shCs : List AV → Option (List Sh)
  | [] => some []
  | x :: xs => match shC x, shCs xs with
    | some s, some ss => some (s :: ss)
    | _, _ => none
def thawC : AV → AV
  | .sc kn v => .sc kn v
  | .sl kn es d _ => .sl kn es d none
  | _ => .any
/-- a slice of cells as data, where it may be -/
def vslT (n len : Nat) (cs : List AV) : AV := match shCs ((cs.take n).map thawC) with
  | some es => (match mkSl es n len (cs.map thawC) none with | .sl kn es d _ => .sl kn es d none | _ => .any)
  | none => .any
def vslO (h : Hp) (o off n len : Nat) : AV := match lookO o h.ob with
  | some cs => bif isVar cs && Nat.ble (off + len * n) cs.length then vslT n len ((cs.drop off).take (len * n)) else .any
  | none => .any
mutual
/-- a value, its rows read -/
def thaw (h : Hp) : AV → AV
  | .rsl kn o n _ => match rowOf o h with
    | some (es, d) => bif Nat.beq n es.length then .sl kn es d none else .any
    | none => .any
  | .rp _ _ _ _ _ => .any
  | .rw es d => .rw es d
  | .ptr _ _ => .any
  | .mp _ => .any
  | .sl kn es d _ => .sl kn es d none
  | .fn _ _ _ => .any
  | .agg cs => .agg (thawL h cs)
  | .tup vs => .tup (thawL h vs)
  | .any => .any
  | .sc kn v => .sc kn v
  | .ep kn es d j => .ep kn es d j
  | .vsl o off n len _ => vslO h o off n len
  | .al n len cs _ => vslT n len cs
  | .ea _ => .any
def thawL (h : Hp) : List AV → List AV
  | [] => []
  | x :: xs => thaw h x :: thawL h xs
end
mutual
/-- rows are handed on whole -/
def thawB (h : Hp) : AV → Bool
  | .rsl _ o _ len => match rowOf o h with
    | some (_, d) => decide (len = d.len)
    | none => true
  | .agg cs => thawBL h cs
  | .tup vs => thawBL h vs
  | .rw _ _ => false
  | _ => true
def thawBL (h : Hp) : List AV → Bool
  | [] => true
  | x :: xs => bif thawB h x then thawBL h xs else false
end
theorem re_el {Z Z' : Nat → Nat → Option Value} (hZ : ∀ b j v, Z b j = some v → Z' b j = some v) {cs : Array Value} {b : Nat} (hc : ∀ k v, cs[k]? = some v → Z' b k = some v) : ∀ {es : List Sh} {p : Nat} {d : D} {j : Nat}, RE Z es cs p d j → EL Z' es b p d j
  | [], _, _, _, _ => trivial
  | _ :: _, _, _, _, ⟨⟨v, h1, h2⟩, h3⟩ => ⟨⟨v, hc _ _ h1, LF.mono hZ _ _ _ h2⟩, re_el hZ hc h3⟩
section
variable {P : Program} {E : Env} {h : Hp} {w w0 w' : World} {G : Nat → Prop}
theorem thawC_rel {Ef : Env} (hZ : ∀ b j v, E.Z b j = some v → Ef.Z b j = some v) : ∀ {x : AV} {v : Value}, Rel E x v → Rel Ef (thawC x) v := by
  intro x v H
  cases x <;> first | exact trivial | exact H | skip
  exact ⟨LF.mono hZ _ _ _ H.1, trivial⟩
theorem thawC_relL {Ef : Env} (hZ : ∀ b j v, E.Z b j = some v → Ef.Z b j = some v) : ∀ {xs : List AV} {vs : List Value}, RelL E xs vs → RelL Ef (xs.map thawC) vs
  | [], _, H => H
  | _ :: _, _, ⟨v, vs', h1, h2, h3⟩ => ⟨v, vs', h1, thawC_rel hZ h2, thawC_relL hZ h3⟩
theorem vslT_rel {Ef : Env} {n len : Nat} {cs : List AV} {v : Value} (H : Rel Ef (.al n len (cs.map thawC) none) v) : Rel Ef (vslT n len cs) v := by
  unfold vslT
  split
  · rename_i es _
    have := mkSl_rel (es := es) H
    split
    · rename_i heq
      rw [heq] at this
      exact ⟨this.1, trivial⟩
    · exact trivial
  · exact trivial
theorem vslO_rel {Ef : Env} (hZ : ∀ b j v, E.Z b j = some v → Ef.Z b j = some v) (hO : ∀ o, E.live o → ∀ k v, w'.cell? ⟨E.β o, k, none⟩ = some v → Ef.Z (E.β o) k = some v) (I : Inv P w0 G E h w') {o off n len cap : Nat} {v : Value} (H : Rel E (.vsl o off n len cap) v) : Rel Ef (vslO h o off n len) v := by
  obtain ⟨hl, g1, g2, rfl⟩ := H
  unfold vslO
  split
  · rename_i cs hlo
    cases hc : isVar cs && Nat.ble (off + len * n) cs.length
    · exact trivial
    simp only [Bool.and_eq_true] at hc
    have hle := Nat.le_of_ble_eq_true hc.2
    obtain ⟨vs, ob, hblk, hrel, hok⟩ := I.ob o cs hlo
    obtain ⟨ty, rfl, h1⟩ := ob_cells hc.1 hrel hok
    refine vslT_rel ⟨⟨(vs.drop off).take (len * n), E.β o, off, cap, thawC_relL hZ ((hrel.drop off).take _), fun u hu => h1 u (List.mem_of_mem_drop (List.mem_of_mem_take hu)), by simp only [List.length_map, List.length_take, List.length_drop]; omega, rfl, g1, g2, fun i u hu => ?_⟩, trivial⟩
    refine hO o hl _ _ ?_
    rw [cell_of_row w' _ _ _ _ _ hblk]
    rw [List.getElem?_take] at hu
    split at hu
    · rw [List.getElem?_drop] at hu; simpa using hu
    · cases hu
  · exact trivial
mutual
theorem thaw_rel {Zf : Nat → Nat → Option Value} {Ef : Env} (hEf : Ef.Z = Zf) (hZ : ∀ b j v, E.Z b j = some v → Zf b j = some v) (hO : ∀ o, E.live o → ∀ k v, w'.cell? ⟨E.β o, k, none⟩ = some v → Zf (E.β o) k = some v) (I : Inv P w0 G E h w') : ∀ (x : AV) (v : Value), Rel E x v → thawB h x = true → Rel Ef (thaw h x) v
  | .any, _, _, _ => trivial
  | .sc _ _, _, H, _ => H
  | .ptr _ _, _, _, _ => trivial
  | .mp _, _, _, _ => trivial
  | .fn _ _ _, _, _, _ => trivial
  | .rp _ _ _ _ _, _, _, _ => trivial
  | .vsl o off n len cap, v, H, _ => vslO_rel (fun b j v hz => by rw [hEf]; exact hZ b j v hz) (fun o hl k v hv => by rw [hEf]; exact hO o hl k v hv) I H
  | .al n len cs tip, v, ⟨⟨vs, b, o, cap, h1, h2, h3, h4, h5, h6, hz⟩, _⟩, _ => vslT_rel ⟨⟨vs, b, o, cap, thawC_relL (fun b j v hz => by rw [hEf]; exact hZ b j v hz) h1, h2, by simpa using h3, h4, h5, h6, fun i u hu => by rw [hEf]; exact hZ _ _ _ (hz i u hu)⟩, trivial⟩
  | .ea _, _, _, _ => trivial
  | .rw _ _, _, _, hb => by simp [thawB] at hb
  | .sl kn es d tip, v, ⟨h1, _⟩, _ => ⟨by rw [hEf]; exact LF.mono hZ _ _ _ h1, trivial⟩
  | .ep kn es d j, v, ⟨b, o, h1, h2⟩, _ => ⟨b, o, h1, by rw [hEf]; exact EL.mono hZ _ _ _ _ _ h2⟩
  | .agg cs, v, ⟨vs, h1, h2, h3⟩, hb => ⟨vs, h1, thaw_relL hEf hZ hO I cs _ h2 (by simpa [thawB] using hb), h3⟩
  | .tup cs, v, ⟨vs, h1, h2⟩, hb => ⟨vs, h1, thaw_relL hEf hZ hO I cs _ h2 (by simpa [thawB] using hb)⟩
  | .rsl kn o n len, v, ⟨hl, ad, cap, g1, g2, g3, g4, g5⟩, hb => by
    simp only [thaw]
    simp only [thawB] at hb
    cases hr : rowOf o h with
    | none => exact trivial
    | some p =>
      obtain ⟨es, d⟩ := p
      simp only
      rw [hr] at hb
      have hlen : len = d.len := of_decide_eq_true hb
      cases hn : Nat.beq n es.length
      · exact trivial
      · obtain rfl := Nat.eq_of_beq_eq_true hn
        subst hlen
        obtain ⟨_, cs, ty, hblk, hbd, hre⟩ := row_ob I hr
        refine ⟨⟨hbd, ad, cap, g1, g2, g3, g4, fun hne => ⟨E.β o, 0, g5 hne, fun i hi => ?_⟩⟩, trivial⟩
        rw [hEf, Nat.zero_add]
        refine re_el hZ (fun k u hk => hO o hl k u ?_) (hre i hi)
        have hblk' : w'.heap[E.β o]? = some (.cells cs.toList.toArray ty (0, 0)) := by simpa using hblk
        rw [cell_of_row w' _ k _ _ _ hblk']
        simpa using hk
theorem thaw_relL {Zf : Nat → Nat → Option Value} {Ef : Env} (hEf : Ef.Z = Zf) (hZ : ∀ b j v, E.Z b j = some v → Zf b j = some v) (hO : ∀ o, E.live o → ∀ k v, w'.cell? ⟨E.β o, k, none⟩ = some v → Zf (E.β o) k = some v) (I : Inv P w0 G E h w') : ∀ (xs : List AV) (vs : List Value), RelL E xs vs → thawBL h xs = true → RelL Ef (thawL h xs) vs
  | [], _, H, _ => H
  | x :: xs, _, ⟨v, vs', h1, h2, h3⟩, hb => by
    simp only [thawBL] at hb
    cases hx : thawB h x
    · rw [hx] at hb; cases hb
    · rw [hx] at hb; exact ⟨v, vs', h1, thaw_rel hEf hZ hO I x v h2 hx, thaw_relL hEf hZ hO I xs vs' h3 hb⟩
end
end
section
variable {P : Program} {E : Env} {h : Hp} {w w0 w' : World} {G : Nat → Prop}
end
mutual
/-- a value, its rows read, if they are handed on whole -/
def thawR (h : Hp) : AV → RT AV
  | .rsl kn o n len => match rowOf o h with
    | some (es, d) => bif Nat.beq n es.length then need kn (decide (len = d.len)) 213 (.ok (.sl kn es d none)) else .bad 213
    | none => .ok .any
  | .rp _ _ _ _ _ => .ok .any
  | .rw _ _ => .bad 214
  | .ptr _ _ => .ok .any
  | .mp _ => .ok .any
  | .sl kn es d _ => .ok (.sl kn es d none)
  | .fn _ _ _ => .ok .any
  | .agg cs => (thawRL h cs).bind fun cs => .ok (.agg cs)
  | .tup vs => (thawRL h vs).bind fun vs => .ok (.tup vs)
  | .any => .ok .any
  | .sc kn v => .ok (.sc kn v)
  | .ep kn es d j => .ok (.ep kn es d j)
  | .vsl o off n len _ => .ok (vslO h o off n len)
  | .al n len cs _ => .ok (vslT n len cs)
  | .ea _ => .ok .any
def thawRL (h : Hp) : List AV → RT (List AV)
  | [] => .ok []
  | x :: xs => (thawR h x).bind fun x => (thawRL h xs).bind fun xs => .ok (x :: xs)
end
mutual
theorem thawR_ok {h : Hp} : ∀ {x : AV} {Q : AV → Prop}, (thawR h x).holds Q → thawB h x = true ∧ Q (thaw h x)
  | .rsl kn o n len, Q, H => by
    simp only [thawR] at H
    simp only [thawB, thaw]
    split at H
    · rename_i es d hr
      cases hn : Nat.beq n es.length
      · rw [hn] at H; exact H.elim
      · rw [hn] at H
        obtain ⟨h1, h2⟩ := need_holds H
        exact ⟨h1, h2⟩
    · exact ⟨rfl, H⟩
  | .rp _ _ _ _ _, Q, H => ⟨rfl, H⟩
  | .vsl _ _ _ _ _, Q, H => ⟨rfl, H⟩
  | .al _ _ _ _, Q, H => ⟨rfl, H⟩
  | .ea _, Q, H => ⟨rfl, H⟩
  | .rw _ _, Q, H => H.elim
  | .ptr _ _, Q, H => ⟨rfl, H⟩
  | .mp _, Q, H => ⟨rfl, H⟩
  | .sl _ _ _ _, Q, H => ⟨rfl, H⟩
  | .fn _ _ _, Q, H => ⟨rfl, H⟩
  | .agg cs, Q, H => by
    simp only [thawR, RT.holds_bind] at H
    simp only [thawB, thaw]
    exact thawRL_ok (Q := fun cs => Q (.agg cs)) H
  | .tup cs, Q, H => by
    simp only [thawR, RT.holds_bind] at H
    simp only [thawB, thaw]
    exact thawRL_ok (Q := fun cs => Q (.tup cs)) H
  | .any, Q, H => ⟨rfl, H⟩
  | .sc _ _, Q, H => ⟨rfl, H⟩
  | .ep _ _ _ _, Q, H => ⟨rfl, H⟩
theorem thawRL_ok {h : Hp} : ∀ {xs : List AV} {Q : List AV → Prop}, (thawRL h xs).holds Q → thawBL h xs = true ∧ Q (thawL h xs)
  | [], Q, H => ⟨rfl, H⟩
  | x :: xs, Q, H => by
    simp only [thawRL, RT.holds_bind] at H
    simp only [thawBL, thawL]
    obtain ⟨h1, h2⟩ := thawR_ok (x := x) (Q := fun x => (thawRL h xs).holds fun ys => Q (x :: ys)) H
    obtain ⟨h3, h4⟩ := thawRL_ok (xs := xs) (Q := fun ys => Q (thaw h x :: ys)) h2
    rw [h1, cond_true]
    exact ⟨h3, h4⟩
end
/-- the tree of a function that hands on rows of its own -/
def treeR (sp : Spec) (args : List AV) : RT AV := (sp args hp0).bind fun x => thawR x.2 x.1
theorem pureS_row {P : Program} {f : FuncId} {sp : Spec} (hs : SoundF P f sp) {F : List AV → RT AV} (hF : ∀ args K, okL args → (F args).holds K → ∃ args', (∀ E vs, RelL E args vs → RelL E args' vs) ∧ (treeR sp args').holds fun r => ∃ y, Le r y ∧ K y) : SoundF P f (pureS P f F) := by
  intro args h K H w0 G E w vals I hr
  unfold pureS at H
  rw [RT.holds_bind] at H
  obtain ⟨args', hle, h1⟩ := hF _ _ (ok_relL _ _ (args0_rel hr)) H
  unfold treeR at h1
  rw [RT.holds_bind] at h1
  have I2 := (I.ren (os := []) (ks := []) (g0 := 0) .nil .nil (by simp) 0).top
  have hr2 := ren_relL (os := []) (ks := []) (g0 := 0) I _ _ hr
  rw [ren_stripL] at hr2
  refine (hs _ _ _ h1 w _ _ w vals I2 (hle _ _ (nilAs_rel _ _ _ (dull_relL _ _ hr2)))).mono ?_
  rintro e w' ⟨r, h', v, E', hK, rfl, S, hv⟩
  have hno : ∀ b, ¬ (E.ren [] [] 0).mine b := by
    rintro b (⟨o, ⟨p, hp, _⟩, _⟩ | ⟨k, hk, _⟩)
    · simp at hp
    · simp [Env.ren] at hk
  have hbel : Below w.heap.size w w' := S.inv.kpt.below fun k hk => absurd hk (hno k)
  have S3 := I.fresh hbel
  obtain ⟨hb, y, hy, hK⟩ := thawR_ok hK
  have hv3 : Rel (E.fresh w w') (thaw h' r) v := by
    refine thaw_rel (E := E') (Zf := (E.fresh w w').Z) rfl (fun b j u hz => ?_) (fun o ho k u hu => ?_) S.inv r v hv hb
    · show (if b < w.heap.size then E.Z b j else w'.cell? ⟨b, j, none⟩) = some u
      by_cases hlt : b < w.heap.size
      · rw [if_pos hlt]
        rcases S.zn b j u hz with h | h | h
        · exact h
        · omega
        · exact absurd h (hno b)
      · rw [if_neg hlt]; exact S.inv.z b j u hz
    · show (if E'.β o < w.heap.size then E.Z (E'.β o) k else w'.cell? ⟨E'.β o, k, none⟩) = some u
      rcases S.inv.own o ho with h | h
      · rw [if_neg (by omega)]; exact hu
      · exact absurd h (hno _)
  refine ⟨_, h, v, _, hK, rfl, S3, ?_⟩
  cases allKL args
  · exact hy _ _ hv3
  · exact know_rel _ _ (hy _ _ hv3)
theorem pure_row {P : Program} {gs : List (FuncId × Spec)} {ls : List (FuncId × Nat × BSpec)} (hm : Fit P) (hΓ : GamL P gs) (hΛ : LamL P ls) (f n : Nat) {F : List AV → RT AV} (hF : ∀ args K, okL args → (F args).holds K → (treeR (evF P (gam gs) (lam ls) n f) args).holds fun r => ∃ y, Le r y ∧ K y) : SoundF P f (pureS P f F) :=
  pureS_row (evF_ok hm (gam_ok hΓ) (lam_ok hΛ) n f) fun args K ho H => ⟨args, fun _ _ h => h, hF args K ho H⟩
/-- the same, whatever is answered where less is known -/
theorem rowOf_cons (o : Nat) (es : List Sh) (d : D) (h : Hp) : rowOf o { h with ob := (o, [.rw es d]) :: h.ob } = some (es, d) := by
  unfold rowOf
  rw [lookO_cons, if_pos rfl]
/-! A loop's rounds one by one, where that can be seen ahead. -/
def altB (c : Tm → Hp → Bool) (s1 s2 : BSpec) : BSpec := fun F h => bif c F h then s1 F h else s2 F h
theorem altB_ok {P : Program} {f : FuncId} {id : Nat} {c : Tm → Hp → Bool} {s1 s2 : BSpec} (h1 : LamE P f id s1) (h2 : LamE P f id s2) : LamE P f id (altB c s1 s2) := by
  intro fn b hp x hx F h K H
  unfold altB at H
  cases hc : c F h
  · rw [hc] at H; exact h2 fn b hp x hx F h K H
  · rw [hc] at H; exact h1 fn b hp x hx F h K H
def runB (P : Program) (gs : List (FuncId × Spec)) (n : Nat) (f : FuncId) (id : Nat) : BSpec := fun F h => evC P (gam gs) (lam []) n f (.block id (.loop (loopAt id (bodyOf P f)))) F h
theorem runB_ok {P : Program} {gs : List (FuncId × Spec)} (hm : Fit P) (hΓ : GamL P gs) (f id n : Nat) (hl : isLoop id (bodyOf P f) = true) : LamE P f id (runB P gs n f id) := by
  intro fn b hp c hc
  have hb : bodyOf P f = b := by unfold bodyOf; rw [hp]
  have hl' := hl
  rw [hb] at hl'
  rw [isLoop_ok hl'] at hc
  obtain rfl := List.mem_singleton.1 hc
  intro F h K H
  unfold runB at H
  rw [hb] at H
  exact (codeOk hm (gam_ok hΓ) (lam_ok (l := []) trivial) n).1 f _ F h K H (fun i sp hs => by cases hs)
/-- the temporary is a number that is known ahead -/
def knT (t : Nat) (F : Tm) (_ : Hp) : Bool := match look t F.tm with | .sc kn _ => kn | _ => false
end
end Go.Proofs.YtomblhnchdokmaaGreatDoor
