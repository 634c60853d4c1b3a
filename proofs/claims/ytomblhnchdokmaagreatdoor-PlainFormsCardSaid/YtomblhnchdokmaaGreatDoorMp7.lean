/- Mp7: texts of this claim, one behind the other: EvY EvZ EvR EvQd EvQ EvM EvO EvSr. No condition. -/
import Derived.Test.YtomblhnchdokmaaGreatDoorMp6
import Derived.RangeFuncRecord
import Derived.RangeFuncCalls
import Derived.RangeFuncLeaves
import Derived.OrdersIn
import Derived.LoopNIn
namespace Go.Proofs.YtomblhnchdokmaaGreatDoor
set_option linter.unusedSimpArgs false
set_option linter.unusedVariables false
open Go.RowKit
set_option maxRecDepth 10000
noncomputable section

/-- the wide fence, in a round or not -/
def FW (r : Option Nat) : Fence := { Fence.wide with round := r }
section
variable {P : Program} {r : Option Nat} {n : Nat} {Q : Exit → Act → World → Prop} {a : Act} {w : World} {ops : Array Oper}
theorem callsFW {f : FuncId} {args : Array Value} {R : Ending → World → Prop} (h : Calls P f args w R) : CallsIn (FW r) n P f args w R := (callsIn_wide (n := n)).2 h
theorem ofCallsFW {f : FuncId} {args : Array Value} {R : Ending → World → Prop} (h : CallsIn (FW r) n P f args w R) : Calls P f args w R := (callsIn_wide (n := n)).1 h
theorem fnFW (f : FuncId) : (FW r).fn f := trivial
theorem depthFW {p : Prop} (h : (FW r).depth.isSome = true) : p := by cases h
theorem rowsFW {row : String} {args : Array Value} {R : Value → World → Prop} (h : Rows P row args w R) : RowsIn (FW r) n P row args w R :=
  fun c cs _ => let ⟨v, w', hr, s⟩ := h c cs; ⟨v, w', hr, stepsIn_wide.2 s⟩
theorem upIn {o : Oper} {next next' : Act → World → Prop} (hn : ∀ a w, next a w → next' a w) : ∀ {res : Result Next}, o.upon P a next Q res → o.uponIn (FW r) n P a next' Q res
  | .ok (.value v) w', h => hn _ _ h
  | .ok .skip w', h => hn _ _ h
  | .ok (.defer d) w', h => hn _ _ h
  | .ok (.enter f args) w', h => ⟨fun hd => depthFW (r := r) hd, callsFW (r := r) (Calls.mono (R := fun
      | .returned v, w'' => next (a.put o.dst v) w''
      | .panicked chain, w'' => Q (.panic chain) a w''
      | .outgrown, _ => LetsOut Q) h (fun e w hh => by
        cases e with
        | returned v => exact hn _ _ hh
        | panicked c => exact hh
        | outgrown => exact hh))⟩
  | .ok (.row row args) w', h => ⟨fun hd => depthFW (r := r) hd, (rowsFW (r := r) (Rows.mono h fun v w hh => hn _ _ hh))⟩
  | .halt (.panic v) w', h => h
  | .halt .blocked w', h => h.elim
  | .halt .waiting w', h => h.elim
  | .halt (.stuck _) w', h => h.elim
  | .halt (.unsupported _) w', h => h.elim
  | .halt (.exit _) w', h => h.elim
  | .halt (.fatal ..) w', h => h.elim
  | .ok (.callThen ..) w', h => h.elim
  | .ok (.stack ..) w', h => h.elim
  | .ok (.round ..) w', h => h.elim
  | .ok .recover w', h => h.elim
  | .ok (.comm ..) w', h => h.elim
  | .ok .numGoroutine w', h => h.elim
  | .ok .collect w', h => h.elim
  | .ok (.watch _) w', h => h.elim
/-- no statement puts a call off -/
def noDef (l : List Oper) : Bool := l.all fun o => match o.op with | .defer _ => false | _ => true
theorem opIn {o : Oper} {next next' : Act → World → Prop} (hd : ∀ c, o.op ≠ .defer c) (hn : ∀ a w, next a w → next' a w) (h : o.wp P a w next Q) : o.wpIn (FW r) n P a w next' Q := by
  refine ⟨fun _ _ => trivial, ?_⟩
  rw [Oper.semAt_eq _ _ _ hd]
  exact upIn hn h
theorem noDef_ne {l : List Oper} (h : noDef l = true) {o : Oper} (ho : o ∈ l) : ∀ c, o.op ≠ .defer c := fun c e => by
  have := List.all_eq_true.1 h o ho
  rw [e] at this; cases this
theorem listIn (hQ : ¬ LetsOut Q) : ∀ (l : List Oper) (a : Act) (w : World), noDef l = true → wpList P ops Q l a w → wpListIn (FW r) n P ops Q l a w
  | [], _, _, _, h => h
  | o :: l, a, w, hd, h => by
    have hd' : noDef l = true := by
      have h := hd
      simp only [noDef, List.all_cons, Bool.and_eq_true] at h
      exact h.2
    unfold wpList at h
    unfold wpListIn
    split
    · rename_i hw
      rw [if_pos hw] at h
      rcases h with h | h
      · exact opIn (noDef_ne hd (List.mem_cons_self ..)) (fun a w h => listIn hQ l a w hd' h) h
      · exact absurd h.2 hQ
    · rename_i hw
      rw [if_neg hw] at h
      exact ⟨fun _ _ => trivial, listIn hQ l _ _ hd' h⟩
theorem anyIn (hQ : ¬ LetsOut Q) (hd : noDef ops.toList = true) : ∀ (m : Nat) (listed : Array Bool) (a : Act) (w : World), wpAny P .any ops Q m listed a w → wpAnyIn (FW r) n P .any ops Q m listed a w
  | 0, _, _, _, h => h
  | m + 1, listed, a, w, h => by
    refine ⟨h.1, fun i hi => ?_⟩
    have h2 := h.2 i hi
    unfold wpOp at h2
    unfold wpOpIn
    split
    · rename_i ho; rw [ho] at h2; exact anyIn hQ hd m _ _ _ h2
    · rename_i o ho
      rw [ho] at h2
      simp only at h2
      have hmem : o ∈ ops.toList := by
        obtain ⟨hlt, he⟩ := Array.getElem?_eq_some_iff.1 ho
        rw [← he]; exact Array.mem_toList_iff.2 (Array.getElem_mem hlt)
      split
      · rename_i hw
        rw [if_pos hw] at h2
        rcases h2 with h | h
        · exact opIn (noDef_ne hd hmem) (fun a w h => anyIn hQ hd m _ a w h) h
        · exact absurd h.2 hQ
      · rename_i hw
        rw [if_neg hw] at h2
        exact ⟨fun _ _ => trivial, anyIn hQ hd m _ _ _ h2⟩
end
/-- no region puts a call off -/
def calmC : Code → Bool
  | .region _ ops _ => noDef ops.toList
  | .seq a b => calmC a && calmC b
  | .cond _ a b => calmC a && calmC b
  | .block _ b => calmC b
  | .loop b => calmC b
  | .scope _ => false
  | _ => true
section
variable {P : Program} {Γ : FuncId → Option Spec} {Λ : FuncId → Nat → Option BSpec}
def BOkIn (r : Option Nat) (m : Nat) (P : Program) (c : Code) (sp : BSpec) : Prop := ∀ F h K, (sp F h).holds K → ∀ w0 G E w a Q, ¬ LetsOut Q → Inv P w0 G E h w → RelT E F a → Post P w0 G E h w K Q → c.wpIn (FW r) m P Q a w
def CodeIn (r : Option Nat) (m : Nat) (P : Program) (Γ : FuncId → Option Spec) (Λ : FuncId → Nat → Option BSpec) (n : Nat) : Prop := ∀ f c F h K, (evC P Γ Λ n f c F h).holds K → calmC c = true → (∀ id sp, Λ f id = some sp → ∀ c' ∈ blocksOf id c, BOkIn r m P c' sp) → ∀ w0 G E w a Q, ¬ LetsOut Q → Inv P w0 G E h w → RelT E F a → Post P w0 G E h w K Q → c.wpIn (FW r) m P Q a w
theorem codeIn (hm : Fit P) (hΓ : GamOk P Γ) (hΛ : LamAll P Λ) (r : Option Nat) (m : Nat) : ∀ n, CodeIn r m P Γ Λ n ∧
    ∀ f b F h K, (evC P Γ Λ n f (.loop b) F h).holds K → calmC b = true → (∀ id sp, Λ f id = some sp → ∀ c' ∈ blocksOf id b, BOkIn r m P c' sp) → ∀ w0 G E w a Q, ¬ LetsOut Q → Inv P w0 G E h w → RelT E F a → Post P w0 G E h w K Q → Code.roundsIn (FW r) m P b Q n a w
  | 0 => ⟨fun f c F h K H => by unfold evC at H; exact H.elim, fun f b F h K H => by unfold evC at H; exact H.elim⟩
  | n + 1 => by
    obtain ⟨ihc, ihl⟩ := codeIn hm hΓ hΛ r m n
    have hcall := callE_ok hm.2 (codeOk hm hΓ hΛ n).1 hΓ hΛ
    have then_ : ∀ {Q : Exit → Act → World → Prop} {K : Act → World → Prop}, ¬ LetsOut Q → ¬ LetsOut (Exit.then K Q) := fun hQ h => hQ h
    have loop : ∀ f b F h K, (evC P Γ Λ (n + 1) f (.loop b) F h).holds K → calmC b = true → (∀ id sp, Λ f id = some sp → ∀ c' ∈ blocksOf id b, BOkIn r m P c' sp) → ∀ w0 G E w a Q, ¬ LetsOut Q → Inv P w0 G E h w → RelT E F a → Post P w0 G E h w K Q → Code.roundsIn (FW r) m P b Q (n + 1) a w := by
      intro f b F h K H hc hL w0 G E w a Q hQ I hT hp
      unfold evC at H
      simp only at H
      rw [RT.holds_bind] at H
      rw [roundsIn_succ]
      refine ihc f b F h _ H hc hL w0 G E w a _ (then_ hQ) I hT ?_
      intro ex F' h' E' a' w' hk hs hT'
      cases ex with
      | normal => exact ihl f b F' h' K hk hc hL w0 G E' w' a' Q hQ hs.inv hT' (hp.step hs)
      | exit id => exact hp _ _ _ _ _ _ hk hs hT'
      | ret => exact hp _ _ _ _ _ _ hk hs hT'
    refine ⟨fun f c F h K H hc hL w0 G E w a Q hQ I hT hp => ?_, loop⟩
    have only_ : ¬ LetsOut (fun e a w => e = Exit.normal ∧ Q .normal a w) := fun ⟨_, _, h, _⟩ => by cases h
    cases c with
    | skip => unfold evC at H; exact wpIn_skip (hp _ _ _ _ _ _ H (Stepd.refl I) hT)
    | ret => unfold evC at H; exact wpIn_ret (hp _ _ _ _ _ _ H (Stepd.refl I) hT)
    | exit id => unfold evC at H; exact wpIn_exit (hp _ _ _ _ _ _ H (Stepd.refl I) hT)
    | region id ops draw =>
      cases draw with
      | false =>
        unfold evC at H
        simp only at H
        rw [RT.holds_bind] at H
        exact wpIn_region_list (listIn hQ _ _ _ hc (evList_ok hcall _ H I hT fun F' h' E' a' w' hk hs hT' => hp _ _ _ _ _ _ hk hs hT'))
      | true =>
        unfold evC at H
        simp only at H
        cases hqr : asRow P Λ f id ops
        case true =>
          rw [hqr] at H
          simp only [cond_true] at H
          rw [RT.holds_bind] at H
          have hq : quietR P ops = true := by
            unfold asRow at hqr
            split at hqr
            · cases hqr
            · exact hqr
          have hd := I.drew (w.drawn + 1)
          exact Go.wpIn_mono (Q := fun e a w => e = .normal ∧ Q .normal a w) (wpIn_region_any hm.1 (anyIn only_ hc _ _ _ _ (evReg_ok hcall hq H hd.inv hT fun F' h' E' a' w' hk hs hT' => ⟨rfl, hp _ _ _ _ _ _ hk (hd.trans hs) hT'⟩))) (fun e a w hq => by obtain ⟨rfl, hq⟩ := hq; exact hq)
        rw [hqr] at H
        simp only [cond_false] at H
        cases hla : asLate P Λ f id ops
        case true =>
          rw [hla] at H
          simp only [cond_true] at H
          rw [RT.holds_bind] at H
          have hd := I.drew (w.drawn + 1)
          exact Go.wpIn_mono (Q := fun e a w => e = .normal ∧ Q .normal a w) (wpIn_region_any hm.1 (anyIn only_ hc _ _ _ _ (wpL_any _ _ [] _ _ (evLateR_ok hcall (asLate_ok hla) (fun _ _ _ _ _ hq => by cases hq.1) H hd.inv hT fun F' h' E' a' w' hk hs hT' => ⟨rfl, hp _ _ _ _ _ _ hk (hd.trans hs) hT'⟩)))) (fun e a w hq => by obtain ⟨rfl, hq⟩ := hq; exact hq)
        rw [hla] at H
        simp only [cond_false] at H
        cases hns : Region.noSelect ops
        · rw [hns] at H; exact H.elim
        rw [hns] at H
        simp only [cond_true] at H
        rw [RT.holds_bind] at H
        have hd := I.drew (w.drawn + 1)
        refine Go.wpIn_mono (Q := fun e a w => e = .normal ∧ Q .normal a w) (wpIn_region_any hm.1 (anyIn only_ hc _ _ _ _ (wpL_any _ _ [] _ _ (evDrawn_ok erOf_ok hcall hns (fun _ _ _ _ _ hq => by cases hq.1) _ H hd.inv hT .nil ?_)))) (fun e a w hq => by obtain ⟨rfl, hq⟩ := hq; exact hq)
        exact fun F' h' E' a' w' hk hs hT' => ⟨rfl, hp _ _ _ _ _ _ hk (hd.trans hs) hT'⟩
    | seq x y =>
      unfold evC at H
      simp only at H
      rw [RT.holds_bind] at H
      simp only [calmC, Bool.and_eq_true] at hc
      refine wpIn_seq (ihc f x F h _ H hc.1 (fun id sp hs c' hc' => hL id sp hs c' (List.mem_append_left _ hc')) w0 G E w a _ (then_ hQ) I hT ?_)
      intro ex F' h' E' a' w' hk hs hT'
      cases ex with
      | normal => exact ihc f y F' h' K hk hc.2 (fun id sp hs c' hc' => hL id sp hs c' (List.mem_append_right _ hc')) w0 G E' w' a' Q hQ hs.inv hT' (hp.step hs)
      | exit id => exact hp _ _ _ _ _ _ hk hs hT'
      | ret => exact hp _ _ _ _ _ _ hk hs hT'
    | cond c x y =>
      unfold evC at H
      simp only at H
      simp only [calmC, Bool.and_eq_true] at hc
      split at H
      · rename_i t
        split at H
        · rename_i kn b hl
          have hv := hT.tm t
          rw [hl] at hv
          have hev : a.eval (.tmp t) = .bool b := hv.1
          have hset := setA_ok hT hl
          rcases brk_holds H with ⟨rfl, H2⟩ | ⟨rfl, H2⟩
          · exact wpIn_cond_true hev (ihc f x _ h K H2 hc.1 (fun id sp hs c' hc' => hL id sp hs c' (List.mem_append_left _ hc')) w0 G E w a Q hQ I hset hp)
          · exact wpIn_cond_false hev (ihc f y _ h K H2 hc.2 (fun id sp hs c' hc' => hL id sp hs c' (List.mem_append_right _ hc')) w0 G E w a Q hQ I hset hp)
        · exact H.elim
      · exact wpIn_cond_true rfl (ihc f x F h K H hc.1 (fun id sp hs c' hc' => hL id sp hs c' (List.mem_append_left _ hc')) w0 G E w a Q hQ I hT hp)
      · exact wpIn_cond_false rfl (ihc f y F h K H hc.2 (fun id sp hs c' hc' => hL id sp hs c' (List.mem_append_right _ hc')) w0 G E w a Q hQ I hT hp)
      · exact H.elim
    | block id b =>
      unfold evC at H
      simp only at H
      split at H
      · rename_i sp hsp
        exact hL id sp hsp (.block id b) (by simp [blocksOf]) F h K H w0 G E w a Q hQ I hT hp
      · rw [RT.holds_bind] at H
        refine wpIn_block (ihc f b F h _ H hc (fun i sp hs c' hc' => hL i sp hs c' (List.mem_append_right _ hc')) w0 G E w a _ (fun h => hQ h) I hT ?_)
        intro ex F' h' E' a' w' hk hs hT'
        cases ex with
        | normal => exact hp _ _ _ _ _ _ hk hs hT'
        | ret => exact hp _ _ _ _ _ _ hk hs hT'
        | exit j =>
          simp only at hk
          show Exit.inBlock id Q (.exit j) a' w'
          simp only [Exit.inBlock]
          cases hb : Nat.beq j id
          · rw [hb] at hk
            rw [if_neg (fun e => by rw [e] at hb; simp at hb)]
            exact hp _ _ _ _ _ _ hk hs hT'
          · rw [hb] at hk
            rw [if_pos (Nat.eq_of_beq_eq_true hb)]
            exact hp _ _ _ _ _ _ hk hs hT'
    | loop b => exact wpIn_loop_rounds (n + 1) (loop f b F h K H hc hL w0 G E w a Q hQ I hT hp)
    | rangeFunc _ _ _ _ => unfold evC at H; exact H.elim
    | scope _ => cases hc
    | label _ => unfold evC at H; exact wpIn_label (hp _ _ _ _ _ _ H (Stepd.refl I) hT)
    | goto _ => unfold evC at H; exact H.elim
    | refuse _ => unfold evC at H; exact H.elim
end
end
end Go.Proofs.YtomblhnchdokmaaGreatDoor

namespace Go.Proofs.YtomblhnchdokmaaGreatDoor
set_option linter.unusedSimpArgs false
set_option linter.unusedVariables false
open Go.RowKit
set_option maxRecDepth 10000
noncomputable section

/-- no cells, no map -/
def farO : Obj → Bool | .loop _ => true | .deferred _ => true | _ => false
/-- all far blocks are as they were -/
def FarK (w w' : World) : Prop := ∀ (b : Nat) (ob : Obj), w.heap[b]? = some ob → farO ob = true → w'.heap[b]? = some ob
theorem FarK.refl (w : World) : FarK w w := fun _ _ h _ => h
theorem FarK.trans {a b c : World} (h : FarK a b) (k : FarK b c) : FarK a c := fun i o hi ho => k i o (h i o hi ho) ho
section
variable {P : Program} {E : Env} {F : Tm} {h : Hp} {w w0 : World} {G : Nat → Prop} {a : Act}
theorem far_live (I : Inv P w0 G E h w) {b : Nat} {ob : Obj} (hb : w.heap[b]? = some ob) (hf : farO ob = true) {o : Nat} (ho : E.live o) : E.β o ≠ b := by
  rintro rfl
  obtain ⟨cs, hcs⟩ : ∃ cs, lookO o h.ob = some cs := Option.isSome_iff_exists.1 ((I.live o).1 ho)
  obtain ⟨vs, ob', g1, _, g2⟩ := I.ob o cs hcs
  rw [hb] at g1; cases g1
  rcases g2 with ⟨t, rfl, _⟩ | (⟨es, ck, rfl, _⟩ | ⟨_, _, _, _, rfl, _⟩) | ⟨c, t, rfl, _⟩ <;> cases hf
theorem far_vec (I : Inv P w0 G E h w) {b : Nat} {ob : Obj} (hb : w.heap[b]? = some ob) (hf : farO ob = true) {k : Nat} (hk : k < h.nv) : (E.vc k).ownBlock ≠ some b := by
  intro e
  obtain ⟨sz, n, xs, _, g2, _⟩ := I.vec k hk
  rcases g2.2 with ⟨h0, _⟩ | ⟨g, cap, cur, h0, _, ⟨_, hg, _⟩, _⟩
  · rw [h0] at e; cases e
  · rw [h0] at e; cases e
    rw [hb] at hg; cases hg; cases hf
theorem far_z (I : Inv P w0 G E h w) {b : Nat} {ob : Obj} (hb : w.heap[b]? = some ob) (hf : farO ob = true) (j : Nat) : E.Z b j = none := by
  cases hz : E.Z b j with
  | none => rfl
  | some v =>
    have := I.z b j v hz
    unfold World.cell? at this
    simp only [hb] at this
    cases ob <;> first | (cases hf; done) | simp at this
theorem far_mine (I : Inv P w0 G E h w) {b : Nat} {ob : Obj} (hb : w.heap[b]? = some ob) (hf : farO ob = true) : ¬ E.mine b := by
  rintro (⟨o, ho, e⟩ | ⟨k, hk, e⟩)
  · exact far_live I hb hf ho e
  · exact far_vec I hb hf (by rw [← I.m]; exact hk) e
theorem far_kept {E' : Env} {h' : Hp} {w' : World} (I : Inv P w0 G E h w) (S : Stepd P w E.mine E h w E' h' w') : FarK w w' := fun b ob hb hf => by
  rw [← hb]
  exact S.inv.kpt.block b (Array.getElem?_eq_some_iff.1 hb).1 (far_mine I hb hf)
/-- a far block is turned -/
theorem Inv.turn (I : Inv P w0 G E h w) {b : Nat} {ob : Obj} (hb : w.heap[b]? = some ob) (hf : farO ob = true) (h0 : w0.heap.size ≤ b) (ob' : Obj) : Stepd P w0 G E h w E h (w.putObj b ob') := by
  have hK : Kpt w (w.putObj b ob') (fun k => k = b) := ⟨rfl, rfl, rfl, by simp, fun k _ hk => World.putObj_heap_other hk⟩
  have oth : ∀ k, k ≠ b → (w.putObj b ob').heap[k]? = w.heap[k]? := fun k hk => World.putObj_heap_other hk
  refine ⟨Ext.refl E, ⟨I.kpt.then hK (fun k e => .inl (e ▸ h0)), I.m, I.ng, I.gn, I.gnlt, I.live, I.nx, fun o cs hcs => ?_, I.own, I.inj, fun c j v hz => ?_, I.zob, fun k hk => ?_, I.vinj, I.laid⟩, fun o ho => ⟨Nat.le_refl _, fun _ => oth _ (far_live I hb hf ho)⟩, fun _ _ _ hz => .inl hz⟩
  · obtain ⟨vs, t, g1, g2, g3⟩ := I.ob o cs hcs
    exact ⟨vs, t, (oth _ (far_live I hb hf ((I.live o).2 (by rw [hcs]; rfl)))).trans g1, g2, g3⟩
  · have hne : c ≠ b := fun e => by rw [e, far_z I hb hf j] at hz; cases hz
    rw [cell_same (oth c hne)]; exact I.z c j v hz
  · obtain ⟨sz, n, xs, g1, g2, g3, g4⟩ := I.vec k hk
    exact ⟨sz, n, xs, g1, owns_same g2 fun c hc => oth c fun e => far_vec I hb hf hk (e ▸ hc), g3, g4⟩
theorem below_alloc (w : World) (o : Obj) : Below w.heap.size w (w.alloc o) := (Below.refl _ w).alloc (Nat.le_refl _) _
/-- a piece of code, far blocks kept -/
theorem segIn {gs : List (FuncId × Spec)} (hm : Fit P) (hΓ : GamL P gs) (r : Option Nat) (m n f : Nat) {c : Code} {K : Out → Prop} {Q : Exit → Act → World → Prop} (H : (evC P (gam gs) (lam []) n f c F h).holds K) (hc : calmC c = true) (hQ : ¬ LetsOut Q) (I : Inv P w0 G E h w) (hT : RelT E F a)
    (hp : ∀ ex F' h' E' a' w', K (ex, F', h') → Stepd P w0 G E h w E' h' w' → RelT E' F' a' → FarK w w' → Q ex.to a' w') : c.wpIn (FW r) m P Q a w :=
  (codeIn hm (gam_ok hΓ) (lam_ok (l := []) trivial) r m n).1 f c F h K H hc (fun _ _ hs => by cases hs) w E.mine E w a Q hQ I.top hT fun ex F' h' E' a' w' hk S hT' => hp ex F' h' E' a' w' hk (S.under I) hT' (far_kept I S)
/-- operations ahead of others -/
theorem list_app {r : Option Nat} {m : Nat} {ops : Array Oper} {Q : Exit → Act → World → Prop} (rest : List Oper) : ∀ (l : List Oper) (a : Act) (w : World), noDef l = true → wpListIn (FW r) m P ops (Exit.then (wpListIn (FW r) m P ops Q rest) Q) l a w → wpListIn (FW r) m P ops Q (l ++ rest) a w
  | [], _, _, _, h => h
  | o :: l, a, w, hd, h => by
    have hd' : noDef l = true := by
      have h := hd
      simp only [noDef, List.all_cons, Bool.and_eq_true] at h
      exact h.2
    unfold wpListIn at h
    show wpListIn (FW r) m P ops Q (o :: (l ++ rest)) a w
    unfold wpListIn
    split
    · rename_i hw
      rw [if_pos hw] at h
      refine ⟨fun _ _ => trivial, ?_⟩
      have h2 := h.2
      revert h2
      generalize (o.semAt (FW r).round a.eval).run P w = res
      intro h2
      cases res with
      | ok nx w' => cases nx with
        | value v => exact list_app rest l _ _ hd' h2
        | skip => exact list_app rest l _ _ hd' h2
        | defer d => exact list_app rest l _ _ hd' h2
        | enter f args => exact ⟨h2.1, h2.2.mono fun e w hh => by cases e with
            | returned v => exact list_app rest l _ _ hd' hh
            | panicked c => exact hh
            | outgrown => exact hh⟩
        | row row args => exact ⟨h2.1, h2.2.mono fun v w hh => list_app rest l _ _ hd' hh⟩
        | round l' f tmps asg bd => exact ⟨h2.1, h2.2.mono fun e w hh => by cases e with
            | returned v => exact list_app rest l _ _ hd' hh
            | panicked c => exact hh
            | outgrown => exact hh⟩
        | recover => exact h2.elim
        | spawn => exact h2.elim
        | comm => exact h2.elim
        | numGoroutine => exact h2.elim
        | collect => exact h2.elim
        | watch => exact h2.elim
        | newcoro => exact h2.elim
        | coroswitch => exact h2.elim
        | sleep => exact h2.elim
        | timer => exact h2.elim
        | alone => exact h2.elim
        | callThen => exact h2.elim
        | stack => exact h2.elim
      | halt s w' => cases s with
        | panic v => exact h2
        | blocked => exact h2.elim
        | waiting => exact h2.elim
        | exit c => exact h2.elim
        | fatal m => exact h2.elim
        | throw m => exact h2.elim
        | goexit => exact h2.elim
        | stuck m => exact h2.elim
        | unsupported m => exact h2.elim
    · rename_i hw
      rw [if_neg hw] at h
      exact ⟨fun _ _ => trivial, list_app rest l _ _ hd' h.2⟩
/-- operations that the evaluator takes, and what stands behind -/
theorem preIn {gs : List (FuncId × Spec)} (hm : Fit P) (hΓ : GamL P gs) (r : Option Nat) (m n f : Nat) {ops : Array Oper} (l rest : List Oper) {K : Tm × Hp → Prop} {Q : Exit → Act → World → Prop} (H : (evList P (callE P (gam gs) (evC P (gam gs) (lam []) n)) ops l F h).holds K) (hd : noDef l = true) (hQ : ¬ LetsOut Q) (I : Inv P w0 G E h w) (hT : RelT E F a)
    (hp : ∀ F' h' E' a' w', K (F', h') → Stepd P w0 G E h w E' h' w' → RelT E' F' a' → FarK w w' → wpListIn (FW r) m P ops Q rest a' w') : wpListIn (FW r) m P ops Q (l ++ rest) a w := by
  refine list_app rest l a w hd (listIn (Q := Exit.then (wpListIn (FW r) m P ops Q rest) Q) (fun h => hQ h) l a w hd ?_)
  have hcall := callE_ok hm.2 (codeOk hm (gam_ok hΓ) (lam_ok (l := []) trivial) n).1 (gam_ok hΓ) (lam_ok (l := []) trivial)
  exact evList_ok (w0 := w) (G := E.mine) hcall l H I.top hT fun F' h' E' a' w' hk S hT' => hp F' h' E' a' w' hk (S.under I) hT' (far_kept I S)
/-- all far blocks but one are as they were -/
def FarX (l : Nat) (w w' : World) : Prop := ∀ (b : Nat) (ob : Obj), b ≠ l → w.heap[b]? = some ob → farO ob = true → w'.heap[b]? = some ob
theorem FarK.x {w w' : World} (l : Nat) (h : FarK w w') : FarX l w w' := fun b ob _ hb hf => h b ob hb hf
theorem FarX.trans {l : Nat} {a b c : World} (h : FarX l a b) (k : FarX l b c) : FarX l a c := fun i o hl hi ho => k i o hl (h i o hl hi ho) ho
theorem FarX.put {l : Nat} {w w' : World} (h : FarX l w w') (ob : Obj) : FarX l w (w'.putObj l ob) := fun i o hl hi ho => (World.putObj_heap_other hl).trans (h i o hl hi ho)
/-- one round: the assignment, the body -/
theorem roundIn_ev {gs : List (FuncId × Spec)} (hm : Fit P) (hΓ : GamL P gs) (m n f : Nat) {L : Nat} {R : Loop} {T0 : Array Value} {K : Out → Prop} (hL : w.heap[L]? = some (.loop R)) (hst : R.state = .ready) (hpe : R.pending = none) (hL0 : w0.heap.size ≤ L) (I : Inv P w0 G E h w) (hT : RelT E F { tmps := T0, defers := [] })
    (hca : calmC R.assign = true) (hcb : calmC R.body = true)
    (H : (evC P (gam gs) (lam []) n f R.assign F h).holds fun o => o.1 = .normal ∧ (evC P (gam gs) (lam []) n f R.body o.2.1 o.2.2).holds fun o => (o.1 = .normal ∨ o.1 = .ret) ∧ K o) :
    RoundIn (FW none) m P L R.fn T0 R.assign R.body w fun e w' => ∃ ex F2 h2 E2, K (ex, F2, h2) ∧ Stepd P w0 G E h w E2 h2 w' ∧ FarX L w w' ∧
      ((ex = .normal ∧ e = .returned (.bool true) ∧ w'.heap[L]? = some (.loop R)) ∨ (ex = .ret ∧ e = .returned (.bool false) ∧ w'.heap[L]? = some (.loop { R with state := .done, pending := some .ret }))) := by
  refine roundIn_of_wpIn trivial (segIn hm hΓ (some L) m n f H hca (fun ⟨_, _, h⟩ => h) I hT ?_)
  rintro ex F1 h1 E1 a1 w1 ⟨rfl, H1⟩ S1 hT1 k1
  have hL1 := k1 _ _ hL rfl
  refine ⟨_, run_beginRound hL1 hst, ?_⟩
  have St := S1.inv.turn hL1 rfl hL0 (.loop { R with state := .busy })
  have hL2 : (w1.putObj L (.loop { R with state := .busy })).heap[L]? = some (.loop { R with state := .busy }) := World.putObj_heap_same (Array.getElem?_eq_some_iff.1 hL1).1
  refine segIn hm hΓ (some L) m n f H1 hcb (fun ⟨_, _, h⟩ => h) St.inv hT1 ?_
  rintro ex F2 h2 E2 a2 w2 ⟨hex, hK⟩ S2 hT2 k2
  have hL3 := k2 _ _ hL2 rfl
  have hlt := (Array.getElem?_eq_some_iff.1 hL3).1
  have far : FarX L w w2 := ((k1.x L).put _).trans (k2.x L)
  rcases hex with rfl | rfl
  · refine ⟨_, _, run_endRound none hL3, .normal, F2, h2, E2, hK, ((S1.trans St).trans S2).trans (S2.inv.turn hL3 rfl hL0 _), far.put _, .inl ⟨rfl, rfl, ?_⟩⟩
    rw [World.putObj_heap_same hlt]
    obtain ⟨st, pe, rfn, rt, rp, ra, rb, rd⟩ := R
    subst hst; subst hpe; rfl
  · refine ⟨_, _, run_endRound (some .ret) hL3, .ret, F2, h2, E2, hK, ((S1.trans St).trans S2).trans (S2.inv.turn hL3 rfl hL0 _), far.put _, .inr ⟨rfl, rfl, ?_⟩⟩
    rw [World.putObj_heap_same hlt]; rfl
theorem run_yieldOp {o : Oper} {y : Operand} {args : Array Operand} {ts : Array TypeId} {L : Nat} {R : Loop} (ho : o.op = .call ⟨.value y, args, ts⟩) (hy : a.eval y = .func (.yield L) #[] #[]) (hL : w.heap[L]? = some (.loop R)) (hs : args.size = R.params.size) :
    (execOp a.eval o).run P w = .ok (.round L R.fn ((R.params.zip (args.map a.eval)).foldl (fun t (p, v) => t.setIfInBounds p v) R.tmps) R.assign R.body) w := by
  obtain ⟨dst, op, type, pos, after, guard⟩ := o
  subst ho
  have := run_yield (P := P) (args := args.map a.eval) hL (by simpa using hs)
  simp only [execOp, resolve, hy, Deferred.ofValue, Sem.run_bind, Sem.run_pure, Result.andThen_ok, invoke]
  simpa using this
abbrev markD (D : Nat) : Deferred := { target := .collected D, args := #[] }
abbrev recL (fn : FuncId) (tmps : Array Value) (ps : Array Tmp) (assign body : Code) (D : Nat) (st : LoopState) (pe : Option Code) : Loop := { state := st, pending := pe, fn, tmps, params := ps, assign, body, defers := D }
/-- the statement -/
theorem rangeIn (hm : Fit P) {n t gf : Nat} {ps : Array Tmp} {assign body : Code} {cap : List AV} {Q : Exit → Act → World → Prop} {Kk : Option Code → Hp → Prop} (hg : (plainF P gf).isSome = true) (hl : look t F.tm = .fn (.func gf) [] cap) (I : Inv P w0 G E h w) (hT : RelT E F a)
    (hcall : ∀ (fn : FuncId) (L D : Nat) (w1 : World) (E1 : Env) (cap' : List Value), Stepd P w0 G E h w E1 h w1 → FarK w w1 → w0.heap.size ≤ L → w0.heap.size ≤ D → D ≠ L → w1.heap[L]? = some (.loop (recL fn a.tmps ps assign body D .ready none)) → w1.heap[D]? = some (.deferred (some [])) → RelL E1 cap cap' → RelT E1 F a →
      CallsIn (FW none) (n - 1) P gf ((.func (.yield L) #[] #[] :: cap').toArray) w1 fun e W => ∃ v pe st E2 h2, e = .returned v ∧ st ≠ .busy ∧ Stepd P w0 G E1 h w1 E2 h2 W ∧ W.heap[L]? = some (.loop (recL fn a.tmps ps assign body D st pe)) ∧ W.heap[D]? = some (.deferred (some [])) ∧ Kk pe h2 ∧ (pe = none ∨ pe = some .ret))
    (hnext : ∀ D E2 h2 W, Kk none h2 → Stepd P w0 G E h w E2 h2 W → w0.heap.size ≤ D → W.heap[D]? = some (.deferred (some [])) → Q .normal { a with defers := markD D :: a.defers } W)
    (hret : ∀ D E2 h2 W, Kk (some .ret) h2 → Stepd P w0 G E h w E2 h2 W → w0.heap.size ≤ D → W.heap[D]? = some (.deferred (some [])) → Q .ret { a with defers := markD D :: a.defers } W) :
    (Code.rangeFunc (.tmp t) ps assign body).wpIn (FW none) n P Q a w := by
  obtain ⟨a0, lb, hv, h1, hcap⟩ : ∃ a' c', a.eval (.tmp t) = .func (.func gf) a' c' ∧ RelL E [] a'.toList ∧ RelL E cap c'.toList := by
    have := hT.tm t
    rw [hl] at this; exact this
  obtain rfl : a0 = #[] := by cases a0 with | mk l => have : l = [] := h1; subst this; rfl
  refine wpIn_rangeFunc fun fn _ => ?_
  have S1 := I.fresh (below_alloc w (.deferred (some [])))
  have S2 := S1.trans (S1.inv.fresh (below_alloc _ (.loop (recL fn a.tmps ps assign body w.heap.size .ready none))))
  have hL : ((w.alloc (.deferred (some []))).alloc (.loop (recL fn a.tmps ps assign body w.heap.size .ready none))).heap[w.heap.size + 1]? = some (.loop (recL fn a.tmps ps assign body w.heap.size .ready none)) := by
    have := World.alloc_heap_new (w.alloc (.deferred (some []))) (.loop (recL fn a.tmps ps assign body w.heap.size .ready none)); rwa [World.size_alloc] at this
  have hD : ((w.alloc (.deferred (some []))).alloc (.loop (recL fn a.tmps ps assign body w.heap.size .ready none))).heap[w.heap.size]? = some (.deferred (some [])) :=
    (Below.heap_alloc _ _ _ (by simp)).trans (World.alloc_heap_new w _)
  have hlo : w0.heap.size ≤ w.heap.size := I.kpt.size
  have hfk : FarK w ((w.alloc (.deferred (some []))).alloc (.loop (recL fn a.tmps ps assign body w.heap.size .ready none))) := fun b ob hb _ => by
    have hlt := (Array.getElem?_eq_some_iff.1 hb).1
    exact (Below.heap_alloc _ _ _ (by simp; omega)).trans ((Below.heap_alloc w _ b hlt).trans hb)
  have hC := hcall fn (w.heap.size + 1) w.heap.size _ _ lb.toList S2 hfk (by omega) hlo (by omega) hL hD (RelL.mono S2.ext _ _ hcap) (hT.mono S2.ext)
  have hent := run_enterLoop_outer (P := P) (w := w) fn a.tmps ps assign body
  clear hfk
  revert hC hL hD S2 hent
  generalize (w.alloc (.deferred (some []))).alloc (.loop (recL fn a.tmps ps assign body w.heap.size .ready none)) = W1
  intro S2 hL hD hC hent
  refine ⟨w.heap.size + 1, [markD w.heap.size], W1, { target := .fn (.func gf) lb, args := #[.func (.yield (w.heap.size + 1)) #[] #[]] }, W1, gf, (.func (.yield (w.heap.size + 1)) #[] #[] :: lb.toList).toArray, W1, hent, ?_, fun _ _ => trivial, ?_, (fun h => by cases h), hC.mono ?_⟩
  · simp only [resolve, hv]
    simp [go_sem]
  · simp only [invoke]
    rw [callFunc_plain ⟨hg, hm.2⟩]
    simp
  · rintro e W ⟨v, pe, st, E2, h2, rfl, hst, S, hl2, hd2, hK, hpe⟩
    have St := S.inv.turn hl2 rfl (show w0.heap.size ≤ w.heap.size + 1 by omega) (.loop { recL fn a.tmps ps assign body w.heap.size st pe with state := .exhausted })
    have hd3 : (W.putObj (w.heap.size + 1) (.loop { recL fn a.tmps ps assign body w.heap.size st pe with state := .exhausted })).heap[w.heap.size]? = some (.deferred (some [])) := (World.putObj_heap_other (by omega)).trans hd2
    refine ⟨pe, _, run_endLoop hl2 hst, ?_⟩
    rcases hpe with rfl | rfl
    · exact hnext _ _ _ _ hK ((S2.trans S).trans St) hlo hd3
    · exact wpIn_ret (hret _ _ _ _ hK ((S2.trans S).trans St) hlo hd3)
/-- a function's end behind such a statement -/
theorem leaves_mark {n D : Nat} {fn : Func} {tmps : Array Value} {R : Ending → World → Prop} (hD : w.heap[D]? = some (.deferred (some []))) (hr : ∃ v, (results fn tmps).run P (w.putObj D (.deferred none)) = .ok v (w.putObj D (.deferred none)) ∧ R (.returned v) (w.putObj D (.deferred none))) :
    LeavesInM (FW none) n P fn tmps R [markD D] .returning w := ⟨by simp, .inl ⟨D, _, rfl, run_takeDeferred hD, hr⟩⟩
end
end
end Go.Proofs.YtomblhnchdokmaaGreatDoor

namespace Go.Proofs.YtomblhnchdokmaaGreatDoor
set_option linter.unusedSimpArgs false
set_option linter.unusedVariables false
open Go.RowKit
set_option maxRecDepth 10000
noncomputable section

def sL : Code → Code | .seq a _ => a | _ => .skip
def sR : Code → Code | .seq _ b => b | _ => .skip
def blkB : Code → Code | .block _ b => b | _ => .skip
def loopB : Code → Code | .loop b => b | _ => .skip
def rfA : Code → Code | .rangeFunc _ _ a _ => a | _ => .skip
def rfB : Code → Code | .rangeFunc _ _ _ b => b | _ => .skip
def regO : Code → List Oper | .region _ ops _ => ops.toList | _ => []
def thenB : Code → Code | .cond _ a _ => a | _ => .skip
def arrO : Code → Array Oper | .region _ ops _ => ops | _ => #[]
theorem RelT.keep {E : Env} {F : Tm} {a : Act} (hT : RelT E F a) (l : List Nat) : RelT E ⟨F.nt, l.map fun t => (t, look t F.tm), F.df⟩ a := by
  refine ⟨hT.sz, fun i => ?_, hT.df⟩
  show Rel E (look i (l.map fun t => (t, look t F.tm))) _
  rw [look_keep]
  split
  · exact hT.tm i
  · exact trivial
theorem RelT.put1 {E : Env} {F : Tm} {a : Act} {t : Nat} {av : AV} {v : Value} (hT : RelT E F a) (ht : t < F.nt) (hv : Rel E av v) : RelT E { F with tm := (t, av) :: F.tm } (a.put (some t) v) := by
  obtain ⟨F', h1, h2⟩ := putA_ok (K := fun F' => F' = { F with tm := (t, av) :: F.tm }) (dst := some t) (v := av) (u := v) (F := F) (by
    unfold putA
    simp only
    rw [show Nat.blt t F.nt = true from by simpa [Nat.blt_eq] using ht]
    rfl) hT hv
  rw [h1] at h2; exact h2
/-- a piece, and what comes behind it -/
theorem seq_then {P : Program} {E : Env} {F : Tm} {h : Hp} {w w0 : World} {G : Nat → Prop} {a : Act} {gs : List (FuncId × Spec)} (hm : Fit P) (hΓ : GamL P gs) (r : Option Nat) (m n f : Nat) {x y z : Code} {K : Out → Prop} {Q : Exit → Act → World → Prop} (H : (evC P (gam gs) (lam []) (n + 1) f (.seq x y) F h).holds K) (hc : calmC x = true) (hQ : ¬ LetsOut Q) (I : Inv P w0 G E h w) (hT : RelT E F a)
    (hz : ∀ F' h' E' a' w', (evC P (gam gs) (lam []) n f y F' h').holds K → Stepd P w0 G E h w E' h' w' → RelT E' F' a' → FarK w w' → z.wpIn (FW r) m P Q a' w')
    (hx : ∀ ex F' h' E' a' w', ex ≠ .normal → K (ex, F', h') → Stepd P w0 G E h w E' h' w' → RelT E' F' a' → FarK w w' → Q ex.to a' w') : (Code.seq x z).wpIn (FW r) m P Q a w := by
  unfold evC at H
  simp only at H
  rw [RT.holds_bind] at H
  refine wpIn_seq (segIn hm hΓ r m n f (Q := Exit.then (z.wpIn (FW r) m P Q) Q) H hc (fun h => hQ h) I hT ?_)
  intro ex F' h' E' a' w' hk S hT' hf
  cases ex with
  | normal => exact hz _ _ _ _ _ hk S hT' hf
  | exit id => exact hx _ _ _ _ _ _ (by simp) hk S hT' hf
  | ret => exact hx _ _ _ _ _ _ (by simp) hk S hT' hf
theorem zip2 {α β γ : Type} (f : γ → α × β → γ) (p q : α) (u v : β) (t : γ) : ((#[p, q] : Array α).zip #[u, v]).foldl f t = f (f t (p, u)) (q, v) := by
  rw [← Array.foldl_toList]
  simp
theorem yield_two {P : Program} {n m f : Nat} {gs : List (FuncId × Spec)} (hm : Fit P) (hΓ : GamL P gs) {E : Env} {F : Tm} {h : Hp} {w w0 : World} {G : Nat → Prop} {a : Act} {o : Oper} {ops : Array Oper} {rest : List Oper} {d : Nat} {y x1 x2 : Operand} {ts : Array TypeId} {L : Nat} {R : Loop} {T0 : Array Value} {K : Out → Prop} {Q : Exit → Act → World → Prop}
    (ho : o.op = .call ⟨.value y, #[x1, x2], ts⟩) (hg : o.guard = none) (hd : o.dst = some d) (hy : a.eval y = .func (.yield L) #[] #[]) (hL : w.heap[L]? = some (.loop R)) (hst : R.state = .ready) (hpe : R.pending = none) (hps : R.params.size = 2) (hL0 : w0.heap.size ≤ L) (I : Inv P w0 G E h w)
    (hT0 : (R.params.zip #[a.eval x1, a.eval x2]).foldl (fun t (p, v) => t.setIfInBounds p v) R.tmps = T0) (hT : RelT E F { tmps := T0, defers := [] })
    (hca : calmC R.assign = true) (hcb : calmC R.body = true)
    (H : (evC P (gam gs) (lam []) n f R.assign F h).holds fun o => o.1 = .normal ∧ (evC P (gam gs) (lam []) n f R.body o.2.1 o.2.2).holds fun o => (o.1 = .normal ∨ o.1 = .ret) ∧ K o)
    (hn : ∀ ex F2 h2 E2 w', K (ex, F2, h2) → Stepd P w0 G E h w E2 h2 w' → FarX L w w' →
      ((ex = .normal ∧ w'.heap[L]? = some (.loop R) ∧ True → wpListIn (FW none) m P ops Q rest (a.put (some d) (.bool true)) w') ∧ (ex = .ret ∧ w'.heap[L]? = some (.loop { R with state := .done, pending := some .ret }) → wpListIn (FW none) m P ops Q rest (a.put (some d) (.bool false)) w'))) :
    wpListIn (FW none) m P ops Q (o :: rest) a w := by
  unfold wpListIn
  have hw : Region.wanted o (yielded ops a.tmps) = true := by simp [Region.wanted, hg]
  rw [if_pos hw]
  refine ⟨fun _ _ => trivial, ?_⟩
  rw [show o.semAt (FW none).round a.eval = execOp a.eval o from rfl, run_yieldOp (P := P) ho hy hL (by rw [hps]; rfl), Oper.uponIn_round]
  have hargs : (R.params.zip ((#[x1, x2] : Array Operand).map a.eval)).foldl (fun t (p, v) => t.setIfInBounds p v) R.tmps = T0 := by
    rw [← hT0, show (#[x1, x2] : Array Operand).map a.eval = #[a.eval x1, a.eval x2] from by simp]
  rw [hargs]
  refine ⟨fun h => depthFW (r := none) h, (roundIn_ev hm hΓ (m - 1) n f hL hst hpe hL0 I hT hca hcb H).mono ?_⟩
  rintro e w' ⟨ex, F2, h2, E2, hK, S, hf, (⟨rfl, rfl, hl⟩ | ⟨rfl, rfl, hl⟩)⟩
  · show wpListIn _ _ _ _ _ rest (a.put o.dst _) w'
    rw [hd]; exact (hn _ _ _ _ _ hK S hf).1 ⟨rfl, hl, trivial⟩
  · show wpListIn _ _ _ _ _ rest (a.put o.dst _) w'
    rw [hd]; exact (hn _ _ _ _ _ hK S hf).2 ⟨rfl, hl⟩
def opAt (l : List Oper) (i : Nat) : Oper := l.getD i ⟨none, .move (.const (.bool true)), 0, "", #[], none⟩
def callTs (o : Oper) : Array TypeId := match o.op with | .call c => c.argTypes | _ => #[]
def unTy (o : Oper) : TypeId := match o.op with | .unOp _ t _ => t | _ => 0
theorem not_op {P : Program} {r : Option Nat} {m : Nat} {ops : Array Oper} {Q : Exit → Act → World → Prop} {a : Act} {w : World} {o : Oper} {t s d : Nat} {b : Bool} (ho : o.op = .unOp .not t (.tmp s)) (hg : o.guard = none) (hd : o.dst = some d) (he : a.eval (.tmp s) = .bool b) (h : Q .normal (a.put (some d) (.bool (!b))) w) : wpListIn (FW r) m P ops Q [o] a w := by
  unfold wpListIn
  rw [if_pos (by simp [Region.wanted, hg])]
  refine ⟨fun _ _ => trivial, ?_⟩
  rw [Oper.semAt_eq _ _ _ (fun c e => by rw [ho] at e; cases e)]
  have hr : (execOp a.eval o).run P w = .ok (.value (.bool (!b))) w := by
    obtain ⟨dst, op, type, pos, after, guard⟩ := o
    subst ho
    simp only [execOp, he]
    simp [Op.unary]
  rw [hr, Oper.uponIn_value, hd]
  exact h
theorem eval_sc {E : Env} {F : Tm} {a : Act} {t : Nat} {kn : Bool} {v : Value} (hT : RelT E F a) (hl : look t F.tm = .sc kn v) : a.eval (.tmp t) = v := by
  have := hT.tm t
  rw [hl] at this; exact this.1
theorem eval_fn {E : Env} {F : Tm} {a : Act} {t L : Nat} (hT : RelT E F a) (hl : look t F.tm = .fn (.yield L) [] []) : a.eval (.tmp t) = .func (.yield L) #[] #[] := by
  have := hT.tm t
  rw [hl] at this
  obtain ⟨a', c', hv, h1, h2⟩ := this
  obtain rfl : a' = #[] := by cases a' with | mk l => have : l = [] := h1; subst this; rfl
  obtain rfl : c' = #[] := by cases c' with | mk l => have : l = [] := h2; subst this; rfl
  exact hv
theorem df_nil {E : Env} {F : Tm} {a : Act} (hT : RelT E F a) (h : F.df = []) : a.defers = [] := by
  have := hT.df.2
  rw [h] at this
  exact this
def fnOf (P : Program) (f : FuncId) : Option Func := (plainF P f).map (·.1)
theorem plain_of {P : Program} {f : FuncId} {α : Type} {g : Func → α} {x : α} (h : (fnOf P f).map g = some x) : ∃ fn, plainF P f = some (fn, bodyOf P f) ∧ g fn = x := by
  unfold fnOf at h
  unfold bodyOf
  cases hp : plainF P f with
  | none => rw [hp] at h; cases h
  | some p =>
    obtain ⟨fn, b⟩ := p
    rw [hp] at h
    exact ⟨fn, rfl, Option.some.inj h⟩
/-- operations, an activation's put off calls set aside -/
def withD (ds : List Deferred) (Q : Exit → Act → World → Prop) : Exit → Act → World → Prop := fun e a w => ∃ a0 : Act, a = { a0 with defers := ds } ∧ Q e a0 w
/-- loads and stores alone -/
def plainOps (l : List Oper) : Bool := l.all fun o => match o.op with | .load .. => true | .store .. => true | _ => false
theorem plain_noDef {l : List Oper} (h : plainOps l = true) : noDef l = true := by
  refine List.all_eq_true.2 fun o ho => ?_
  have := List.all_eq_true.1 h o ho
  revert this
  cases o.op <;> simp
theorem plain_exec {P : Program} {a : Act} {w w' : World} {o : Oper} {d : Deferred} (h : (match o.op with | .load .. => true | .store .. => true | _ => false) = true) : (execOp a.eval o).run P w ≠ .ok (.defer d) w' := by
  obtain ⟨dst, op, type, pos, after, guard⟩ := o
  intro hr
  cases op <;> first | (cases h; done) | skip
  case load t x =>
    simp only [execOp, Sem.run_bind, Sem.run_pure] at hr
    revert hr
    generalize (Instr.loadAt t (a.eval x)).run P w = res
    intro hr
    cases res <;> simp [Result.andThen] at hr
  case store t x y =>
    simp only [execOp, Sem.run_bind, Sem.run_pure] at hr
    revert hr
    generalize (Instr.storeAt t (a.eval x) (a.eval y)).run P w = res
    intro hr
    cases res <;> simp [Result.andThen] at hr
theorem list_def {P : Program} {r : Option Nat} {m : Nat} {ops : Array Oper} {Q : Exit → Act → World → Prop} (ds : List Deferred) (hQ : ¬ LetsOut Q) : ∀ (l : List Oper) (a : Act) (w : World), plainOps l = true → wpListIn (FW r) m P ops Q l a w → wpListIn (FW r) m P ops (withD ds Q) l { a with defers := ds } w
  | [], a, _, _, h => ⟨a, rfl, h⟩
  | o :: l, a, w, hd, h => by
    have hd' : plainOps l = true := by
      have h := hd
      simp only [plainOps, List.all_cons, Bool.and_eq_true] at h
      exact h.2
    have hput : ∀ v, ({ a with defers := ds } : Act).put o.dst v = { a.put o.dst v with defers := ds } := fun v => by unfold Act.put; split <;> rfl
    have hev : ({ a with defers := ds } : Act).eval = a.eval := by funext x; cases x <;> rfl
    have go : ∀ v W, wpListIn (FW r) m P ops Q l (a.put o.dst v) W → wpListIn (FW r) m P ops (withD ds Q) l (({ a with defers := ds } : Act).put o.dst v) W := fun v W h => by
      rw [hput]; exact list_def ds hQ l _ _ hd' h
    unfold wpListIn at h
    unfold wpListIn
    split
    · rename_i hw
      rw [if_pos hw] at h
      refine ⟨fun _ _ => trivial, ?_⟩
      rw [hev]
      have h2 := h.2
      have hnd := noDef_ne (plain_noDef hd) (List.mem_cons_self ..)
      rw [Oper.semAt_eq _ _ _ hnd] at h2 ⊢
      revert h2
      generalize hres : (execOp a.eval o).run P w = res
      intro h2
      cases res with
      | ok nx w' => cases nx with
        | value v => exact go _ _ h2
        | skip => exact go _ _ h2
        | defer d => exact absurd hres (plain_exec (List.all_eq_true.1 hd o (List.mem_cons_self ..)))
        | enter f args => exact ⟨h2.1, h2.2.mono fun e w hh => by cases e with
            | returned v => exact go _ _ hh
            | panicked c => exact ⟨a, rfl, hh⟩
            | outgrown => exact absurd hh hQ⟩
        | row row args => exact ⟨h2.1, h2.2.mono fun v w hh => go _ _ hh⟩
        | round l' f tmps asg bd => exact ⟨h2.1, h2.2.mono fun e w hh => by cases e with
            | returned v => exact go _ _ hh
            | panicked c => exact ⟨a, rfl, hh⟩
            | outgrown => exact absurd hh hQ⟩
        | recover => exact h2.elim
        | spawn => exact h2.elim
        | comm => exact h2.elim
        | numGoroutine => exact h2.elim
        | collect => exact h2.elim
        | watch => exact h2.elim
        | newcoro => exact h2.elim
        | coroswitch => exact h2.elim
        | sleep => exact h2.elim
        | timer => exact h2.elim
        | alone => exact h2.elim
        | callThen => exact h2.elim
        | stack => exact h2.elim
      | halt s w' => cases s with
        | panic v => exact ⟨a, rfl, h2⟩
        | blocked => exact h2.elim
        | waiting => exact h2.elim
        | exit c => exact h2.elim
        | fatal m => exact h2.elim
        | throw m => exact h2.elim
        | goexit => exact h2.elim
        | stuck m => exact h2.elim
        | unsupported m => exact h2.elim
    · rename_i hw
      rw [if_neg hw] at h
      exact ⟨fun _ _ => trivial, go _ _ h.2⟩
theorem actD {a : Act} (h : a.defers = []) : ({ tmps := a.tmps, defers := [] } : Act) = a := by cases a; simp only at h; subst h; rfl
/-! The running loop's number may be another where no value tells of it. -/
mutual
def noY : AV → Bool
  | .fn (.method _) _ _ => false
  | .fn _ a c => noYL a && noYL c
  | .agg cs => noYL cs
  | .tup cs => noYL cs
  | .al _ _ cs _ => noYL cs
  | .ea cs => noYL cs
  | _ => true
def noYL : List AV → Bool
  | [] => true
  | x :: r => noY x && noYL r
end
def Env.at (E : Env) (L : Nat) : Env := { E with yl := L }
theorem ylF_at {f : Fn} {a c : List AV} (h : noY (.fn f a c) = true) (x y : Nat) : ylF x f = ylF y f ∧ noYL a = true ∧ noYL c = true := by
  cases f <;> simp only [noY, Bool.and_eq_true] at h
  all_goals first | (exact ⟨rfl, h.1, h.2⟩) | (cases h; done)
mutual
theorem rel_at {E : Env} (L : Nat) : ∀ (x : AV) (v : Value), noY x = true → Rel E x v → Rel (E.at L) x v
  | .any, _, _, H => H
  | .sc _ _, _, _, H => H
  | .sl _ _ _ _, _, _, H => H
  | .ptr _ _, _, _, H => H
  | .mp _, _, _, H => H
  | .ep _ _ _ _, _, _, H => H
  | .fn f a c, v, hn, ⟨a', c', h1, h2, h3⟩ => by
      obtain ⟨e, n1, n2⟩ := ylF_at hn E.yl L
      exact ⟨a', c', h1.trans (by rw [e]; rfl), rel_atL L a _ n1 h2, rel_atL L c _ n2 h3⟩
  | .agg cs, v, hn, ⟨cs', h1, h2, h3⟩ => ⟨cs', h1, rel_atL L cs _ hn h2, h3⟩
  | .tup vs, v, hn, ⟨vs', h1, h2⟩ => ⟨vs', h1, rel_atL L vs _ hn h2⟩
  | .rsl _ _ _ _, _, _, H => H
  | .rp _ _ _ _ _, _, _, H => H
  | .rw _ _, _, _, H => H
  | .vsl _ _ _ _ _, _, _, H => H
  | .al _ _ cs _, v, hn, ⟨⟨vs, b, o, cap, h1, h2⟩, h9⟩ => ⟨⟨vs, b, o, cap, rel_atL L cs _ hn h1, h2⟩, h9⟩
  | .ea cs, v, hn, ⟨vs, b, o, h1, h2⟩ => ⟨vs, b, o, rel_atL L cs _ hn h1, h2⟩
theorem rel_atL {E : Env} (L : Nat) : ∀ (xs : List AV) (vs : List Value), noYL xs = true → RelL E xs vs → RelL (E.at L) xs vs
  | [], _, _, H => H
  | a :: xs, _, hn, ⟨v, vs', h1, h2, h3⟩ => by
      have hn' : noY a = true ∧ noYL xs = true := by simpa only [noYL, Bool.and_eq_true] using hn
      exact ⟨v, vs', h1, rel_at L a v hn'.1 h2, rel_atL L xs vs' hn'.2 h3⟩
end
def noYO : List (Nat × List AV) → Bool
  | [] => true
  | (_, cs) :: r => noYL cs && noYO r
theorem noYO_look {o : Nat} {cs : List AV} : ∀ {l : List (Nat × List AV)}, noYO l = true → lookO o l = some cs → noYL cs = true
  | [], _, h => by cases h
  | (k, c) :: r, hn, h => by
    have hn' : noYL c = true ∧ noYO r = true := by simpa only [noYO, Bool.and_eq_true] using hn
    rw [lookO_cons] at h
    by_cases hk : k = o
    · rw [if_pos hk] at h; cases h; exact hn'.1
    · rw [if_neg hk] at h; exact noYO_look hn'.2 h
theorem Inv.at {P : Program} {w0 w : World} {G : Nat → Prop} {E : Env} {h : Hp} (I : Inv P w0 G E h w) (hn : noYO h.ob = true) (L : Nat) : Inv P w0 G (E.at L) h w :=
  ⟨I.kpt, I.m, I.ng, I.gn, I.gnlt, I.live, I.nx, fun o cs hcs => by
    obtain ⟨vs, ob, g1, g2, g3⟩ := I.ob o cs hcs
    exact ⟨vs, ob, g1, rel_atL L _ _ (noYO_look hn hcs) g2, g3⟩, I.own, I.inj, I.z, I.zob, I.vec, I.vinj, I.laid⟩
def noYD : List (FuncId × List AV) → Bool
  | [] => true
  | (_, cs) :: r => noYL cs && noYD r
def noYW : List (Nat × AV) → Bool
  | [] => true
  | (_, x) :: r => noY x && noYW r
theorem noYW_look {t : Nat} : ∀ {l : List (Nat × AV)}, noYW l = true → noY (look t l) = true
  | [], _ => rfl
  | (k, x) :: r, hn => by
    have hn' : noY x = true ∧ noYW r = true := by simpa only [noYW, Bool.and_eq_true] using hn
    rw [look_cons]
    cases hk : Nat.beq k t
    · simp only [cond_false]; exact noYW_look hn'.2
    · simp only [cond_true]; exact hn'.1
theorem relD_at {E : Env} (L : Nat) : ∀ {l : List (FuncId × List AV)} {ds : List Deferred}, noYD l = true → RelD E l ds → RelD (E.at L) l ds
  | [], _, _, h => h
  | (g, xs) :: r, _, hn, ⟨cap, args, ds', h1, h2, h3⟩ => by
    have hn' : noYL xs = true ∧ noYD r = true := by simpa only [noYD, Bool.and_eq_true] using hn
    exact ⟨cap, args, ds', h1, rel_atL L _ _ hn'.1 h2, relD_at L hn'.2 h3⟩
def noYT (F : Tm) : Bool := noYW F.tm && noYD F.df
theorem RelT.at {E : Env} {F : Tm} {a : Act} (hT : RelT E F a) (hn : noYT F = true) (L : Nat) : RelT (E.at L) F a := by
  have hn' : noYW F.tm = true ∧ noYD F.df = true := by simpa only [noYT, Bool.and_eq_true] using hn
  exact ⟨hT.sz, fun t => rel_at L _ _ (noYW_look hn'.1) (hT.tm t), hT.df.1, relD_at L hn'.2 hT.df.2⟩
theorem Env.at_at (E : Env) (L M : Nat) : (E.at L).at M = E.at M := rfl
theorem Env.at_self (E : Env) : E.at E.yl = E := rfl
/-- steps of a loop, as its function's -/
theorem Stepd.at {P : Program} {w0 w w2 : World} {G : Nat → Prop} {E E2 : Env} {h h2 : Hp} {L : Nat} (S : Stepd P w0 G (E.at L) h w E2 h2 w2) (hn : noYO h2.ob = true) : Stepd P w0 G E h w (E2.at E.yl) h2 w2 :=
  ⟨⟨S.ext.live, S.ext.β, S.ext.Z, S.ext.m, S.ext.ng, S.ext.vc, rfl⟩, S.inv.at hn _, S.un, S.zn⟩

/-- what a loop is left by -/
def Ex.cd : Ex → Option Code
  | .normal => none
  | .ret => some .ret
  | .exit id => some (.exit id)
section
variable {P : Program} {E : Env} {F : Tm} {h : Hp} {w w0 : World} {G : Nat → Prop} {a : Act}
/-- one round: the assignment, the body -/
theorem roundE {gs : List (FuncId × Spec)} (hm : Fit P) (hΓ : GamL P gs) (m n f : Nat) {L : Nat} {R : Loop} {T0 : Array Value} {K : Out → Prop} (hL : w.heap[L]? = some (.loop R)) (hst : R.state = .ready) (hpe : R.pending = none) (hL0 : w0.heap.size ≤ L) (I : Inv P w0 G E h w) (hT : RelT E F { tmps := T0, defers := [] })
    (hca : calmC R.assign = true) (hcb : calmC R.body = true)
    (H : (evC P (gam gs) (lam []) n f R.assign F h).holds fun o => o.1 = .normal ∧ (evC P (gam gs) (lam []) n f R.body o.2.1 o.2.2).holds fun o => K o) :
    RoundIn (FW none) m P L R.fn T0 R.assign R.body w fun e w' => ∃ ex F2 h2 E2, K (ex, F2, h2) ∧ Stepd P w0 G E h w E2 h2 w' ∧ FarX L w w' ∧
      ((ex = .normal ∧ e = .returned (.bool true) ∧ w'.heap[L]? = some (.loop R)) ∨ (ex ≠ .normal ∧ e = .returned (.bool false) ∧ w'.heap[L]? = some (.loop { R with state := .done, pending := ex.cd }))) := by
  refine roundIn_of_wpIn trivial (segIn hm hΓ (some L) m n f H hca (fun ⟨_, _, h⟩ => h) I hT ?_)
  rintro ex F1 h1 E1 a1 w1 ⟨rfl, H1⟩ S1 hT1 k1
  have hL1 := k1 _ _ hL rfl
  refine ⟨_, run_beginRound hL1 hst, ?_⟩
  have St := S1.inv.turn hL1 rfl hL0 (.loop { R with state := .busy })
  have hL2 : (w1.putObj L (.loop { R with state := .busy })).heap[L]? = some (.loop { R with state := .busy }) := World.putObj_heap_same (Array.getElem?_eq_some_iff.1 hL1).1
  refine segIn hm hΓ (some L) m n f H1 hcb (fun ⟨_, _, h⟩ => h) St.inv hT1 ?_
  rintro ex F2 h2 E2 a2 w2 hK S2 hT2 k2
  have hL3 := k2 _ _ hL2 rfl
  have hlt := (Array.getElem?_eq_some_iff.1 hL3).1
  have far : FarX L w w2 := ((k1.x L).put _).trans (k2.x L)
  cases hex : ex with
  | normal =>
    subst hex
    refine ⟨_, _, run_endRound none hL3, .normal, F2, h2, E2, hK, ((S1.trans St).trans S2).trans (S2.inv.turn hL3 rfl hL0 _), far.put _, .inl ⟨rfl, rfl, ?_⟩⟩
    rw [World.putObj_heap_same hlt]
    obtain ⟨st, pe, rfn, rt, rp, ra, rb, rd⟩ := R
    subst hst; subst hpe; rfl
  | ret =>
    subst hex
    refine ⟨_, _, run_endRound (some .ret) hL3, .ret, F2, h2, E2, hK, ((S1.trans St).trans S2).trans (S2.inv.turn hL3 rfl hL0 _), far.put _, .inr ⟨by simp, rfl, ?_⟩⟩
    rw [World.putObj_heap_same hlt]; rfl
  | exit id =>
    subst hex
    refine ⟨_, _, run_endRound (some (.exit id)) hL3, .exit id, F2, h2, E2, hK, ((S1.trans St).trans S2).trans (S2.inv.turn hL3 rfl hL0 _), far.put _, .inr ⟨by simp, rfl, ?_⟩⟩
    rw [World.putObj_heap_same hlt]; rfl
/-- the statement -/
theorem rangeE (hm : Fit P) {n t gf : Nat} {ps : Array Tmp} {assign body : Code} {cap : List AV} {Q : Exit → Act → World → Prop} {Kk : Option Code → Hp → Prop} (hg : (plainF P gf).isSome = true) (hl : look t F.tm = .fn (.func gf) [] cap) (I : Inv P w0 G E h w) (hT : RelT E F a)
    (hcall : ∀ (fn : FuncId) (L D : Nat) (w1 : World) (E1 : Env) (cap' : List Value), Stepd P w0 G E h w E1 h w1 → FarK w w1 → w0.heap.size ≤ L → w0.heap.size ≤ D → D ≠ L → w1.heap[L]? = some (.loop (recL fn a.tmps ps assign body D .ready none)) → w1.heap[D]? = some (.deferred (some [])) → RelL E1 cap cap' → RelT E1 F a →
      CallsIn (FW none) (n - 1) P gf ((.func (.yield L) #[] #[] :: cap').toArray) w1 fun e W => ∃ v pe st E2 h2, e = .returned v ∧ st ≠ .busy ∧ Stepd P w0 G E1 h w1 E2 h2 W ∧ W.heap[L]? = some (.loop (recL fn a.tmps ps assign body D st pe)) ∧ W.heap[D]? = some (.deferred (some [])) ∧ Kk pe h2 ∧ ∃ ex : Ex, pe = ex.cd)
    (hnext : ∀ D E2 h2 W, Kk none h2 → Stepd P w0 G E h w E2 h2 W → w0.heap.size ≤ D → W.heap[D]? = some (.deferred (some [])) → Q .normal { a with defers := markD D :: a.defers } W)
    (hout : ∀ D E2 h2 W (ex : Ex), ex ≠ .normal → Kk ex.cd h2 → Stepd P w0 G E h w E2 h2 W → w0.heap.size ≤ D → W.heap[D]? = some (.deferred (some [])) → Q ex.to { a with defers := markD D :: a.defers } W) :
    (Code.rangeFunc (.tmp t) ps assign body).wpIn (FW none) n P Q a w := by
  obtain ⟨a0, lb, hv, h1, hcap⟩ : ∃ a' c', a.eval (.tmp t) = .func (.func gf) a' c' ∧ RelL E [] a'.toList ∧ RelL E cap c'.toList := by
    have := hT.tm t
    rw [hl] at this; exact this
  obtain rfl : a0 = #[] := by cases a0 with | mk l => have : l = [] := h1; subst this; rfl
  refine wpIn_rangeFunc fun fn _ => ?_
  have S1 := I.fresh (below_alloc w (.deferred (some [])))
  have S2 := S1.trans (S1.inv.fresh (below_alloc _ (.loop (recL fn a.tmps ps assign body w.heap.size .ready none))))
  have hL : ((w.alloc (.deferred (some []))).alloc (.loop (recL fn a.tmps ps assign body w.heap.size .ready none))).heap[w.heap.size + 1]? = some (.loop (recL fn a.tmps ps assign body w.heap.size .ready none)) := by
    have := World.alloc_heap_new (w.alloc (.deferred (some []))) (.loop (recL fn a.tmps ps assign body w.heap.size .ready none)); rwa [World.size_alloc] at this
  have hD : ((w.alloc (.deferred (some []))).alloc (.loop (recL fn a.tmps ps assign body w.heap.size .ready none))).heap[w.heap.size]? = some (.deferred (some [])) :=
    (Below.heap_alloc _ _ _ (by simp)).trans (World.alloc_heap_new w _)
  have hlo : w0.heap.size ≤ w.heap.size := I.kpt.size
  have hfk : FarK w ((w.alloc (.deferred (some []))).alloc (.loop (recL fn a.tmps ps assign body w.heap.size .ready none))) := fun b ob hb _ => by
    have hlt := (Array.getElem?_eq_some_iff.1 hb).1
    exact (Below.heap_alloc _ _ _ (by simp; omega)).trans ((Below.heap_alloc w _ b hlt).trans hb)
  have hC := hcall fn (w.heap.size + 1) w.heap.size _ _ lb.toList S2 hfk (by omega) hlo (by omega) hL hD (RelL.mono S2.ext _ _ hcap) (hT.mono S2.ext)
  have hent := run_enterLoop_outer (P := P) (w := w) fn a.tmps ps assign body
  clear hfk
  revert hC hL hD S2 hent
  generalize (w.alloc (.deferred (some []))).alloc (.loop (recL fn a.tmps ps assign body w.heap.size .ready none)) = W1
  intro S2 hL hD hC hent
  refine ⟨w.heap.size + 1, [markD w.heap.size], W1, { target := .fn (.func gf) lb, args := #[.func (.yield (w.heap.size + 1)) #[] #[]] }, W1, gf, (.func (.yield (w.heap.size + 1)) #[] #[] :: lb.toList).toArray, W1, hent, ?_, fun _ _ => trivial, ?_, (fun h => by cases h), hC.mono ?_⟩
  · simp only [resolve, hv]
    simp [go_sem]
  · simp only [invoke]
    rw [callFunc_plain ⟨hg, hm.2⟩]
    simp
  · rintro e W ⟨v, pe, st, E2, h2, rfl, hst, S, hl2, hd2, hK, hpe⟩
    have St := S.inv.turn hl2 rfl (show w0.heap.size ≤ w.heap.size + 1 by omega) (.loop { recL fn a.tmps ps assign body w.heap.size st pe with state := .exhausted })
    have hd3 : (W.putObj (w.heap.size + 1) (.loop { recL fn a.tmps ps assign body w.heap.size st pe with state := .exhausted })).heap[w.heap.size]? = some (.deferred (some [])) := (World.putObj_heap_other (by omega)).trans hd2
    refine ⟨pe, _, run_endLoop hl2 hst, ?_⟩
    obtain ⟨ex, rfl⟩ := hpe
    cases hex : ex with
    | normal => subst hex; exact hnext _ _ _ _ hK ((S2.trans S).trans St) hlo hd3
    | ret => subst hex; exact wpIn_ret (hout _ _ _ _ .ret (by simp) hK ((S2.trans S).trans St) hlo hd3)
    | exit id => subst hex; exact wpIn_exit (hout _ _ _ _ (.exit id) (by simp) hK ((S2.trans S).trans St) hlo hd3)
end

end
end Go.Proofs.YtomblhnchdokmaaGreatDoor

namespace Go.Proofs.YtomblhnchdokmaaGreatDoor
set_option linter.unusedSimpArgs false
set_option linter.unusedVariables false
open Go.RowKit
set_option maxRecDepth 10000
noncomputable section

/-- behind the first m all come in their row -/
def sufOk2 (ops : Array Oper) (m : Nat) : Bool := (List.range ops.size).all fun k => Nat.blt k m ||
  (((List.range ops.size).any (fun j => Nat.ble m j && wtB ops j k) || (List.range m).all (fun i => (cov ops k m m).contains i)) && (List.range ops.size).all (fun j => !(Nat.blt k j) || !(rdyB ops (fun x => Nat.blt x k) j)))
/-- behind the first m all come in their row; no first one is guarded -/
def preOk (ops : Array Oper) (m : Nat) : Bool := bif sufOk2 ops m then
  (bif (ops.toList.take m).all (fun o => match o.guard with | none => true | some _ => false) then (List.range ops.size).all (fun k => match ops[k]? with
    | some ok => ok.after.all (fun e => !(Region.binds .any e) || Nat.blt e.on k)
    | none => false) else false) else false
section
variable {P : Program} {r : Option Nat} {n : Nat}
theorem opIn_mono2 {o : Oper} {a : Act} {w : World} {K K' : Act → World → Prop} {Q Q' : Exit → Act → World → Prop} (h : ∀ a w, K a w → K' a w) (hq : ∀ c a w, Q (.panic c) a w → Q' (.panic c) a w) (hl : LetsOut Q → LetsOut Q')
    (hh : o.wpIn (FW r) n P a w K Q) : o.wpIn (FW r) n P a w K' Q' := by
  unfold Oper.wpIn at *
  refine ⟨hh.1, ?_⟩
  have hh := hh.2
  generalize (o.semAt (FW r).round a.eval).run P w = r at *
  cases r with
  | ok x w' =>
    cases x <;> simp only [Oper.uponIn] at hh ⊢ <;>
      first
        | exact h _ _ hh
        | exact ⟨hh.1, CallsIn.mono hh.2 (fun e w'' he => by cases e <;> first | exact h _ _ he | exact hq _ _ _ he | exact hl he)⟩
        | exact ⟨hh.1, RowsIn.mono hh.2 (fun _ _ he => h _ _ he)⟩
        | exact ⟨hh.1, RoundIn.mono hh.2 (fun e w'' he => by cases e <;> first | exact h _ _ he | exact hq _ _ _ he | exact hl he)⟩
  | halt x w' => cases x <;> simp only [Oper.uponIn] at hh ⊢ <;> first | exact hh | exact hq _ _ _ hh
variable {ops tk : Array Oper} {Q : Exit → Act → World → Prop}
structure PreOk (ops : Array Oper) (m : Nat) : Prop where
  top : ∀ k o, ops[k]? = some o → ∀ e ∈ o.after, Region.binds .any e = true → e.on < k
  grd : ∀ k o, k < m → ops[k]? = some o → o.guard = none
  wait : ∀ k, m ≤ k → k < ops.size → (∃ j, m ≤ j ∧ j < ops.size ∧ wtB ops j k = true) ∨ ∀ i, i < m → i ∈ cov ops k m m
  row : ∀ k j, m ≤ k → k < j → j < ops.size → rdyB ops (fun x => Nat.blt x k) j = false
theorem preOk_ok {m : Nat} (h : preOk ops m = true) : PreOk ops m := by
  unfold preOk at h
  cases h1 : sufOk2 ops m
  · rw [h1] at h; cases h
  rw [h1, cond_true] at h
  cases h2 : (ops.toList.take m).all (fun o => match o.guard with | none => true | some _ => false)
  · rw [h2] at h; cases h
  rw [h2, cond_true] at h
  have hs : ∀ k, m ≤ k → k < ops.size → (((List.range ops.size).any (fun j => Nat.ble m j && wtB ops j k) || (List.range m).all (fun i => (cov ops k m m).contains i)) && (List.range ops.size).all (fun j => !(Nat.blt k j) || !(rdyB ops (fun x => Nat.blt x k) j))) = true := fun k hk hks => by
    unfold sufOk2 at h1
    have := List.all_eq_true.1 h1 k (List.mem_range.2 hks)
    cases hb : Nat.blt k m
    · rw [hb, Bool.false_or] at this; exact this
    · have := blt_lt hb; omega
  refine ⟨fun k o ho e he hb => ?_, fun k o hk ho => ?_, fun k hm hks => ?_, fun k j hm hkj hjs => ?_⟩
  · have := List.all_eq_true.1 h k (List.mem_range.2 (Array.getElem?_eq_some_iff.1 ho).1)
    rw [ho] at this
    have h1 := Array.all_eq_true'.1 this e he
    rw [hb, Bool.not_true, Bool.false_or] at h1
    exact blt_lt h1
  · have hmem : o ∈ ops.toList.take m := by
      rw [List.mem_iff_getElem?]
      exact ⟨k, by rw [List.getElem?_take_of_lt hk, Array.getElem?_toList]; exact ho⟩
    have := List.all_eq_true.1 h2 o hmem
    cases hg : o.guard with
    | none => rfl
    | some x => rw [hg] at this; cases this
  · have := hs k hm hks
    rw [Bool.and_eq_true, Bool.or_eq_true] at this
    rcases this.1 with h3 | h3
    · obtain ⟨j, hj, h4⟩ := List.any_eq_true.1 h3
      rw [Bool.and_eq_true] at h4
      exact .inl ⟨j, Nat.le_of_ble_eq_true h4.1, List.mem_range.1 hj, h4.2⟩
    · refine .inr fun i hi => ?_
      have := List.all_eq_true.1 h3 i (List.mem_range.2 hi)
      rw [List.contains_eq_mem] at this
      exact of_decide_eq_true this
  · have := hs k hm (by omega)
    rw [Bool.and_eq_true] at this
    have := List.all_eq_true.1 this.2 j (List.mem_range.2 hjs)
    rw [lt_blt hkj, Bool.not_true, Bool.false_or, Bool.not_eq_true'] at this
    exact this
/-- all that are left come in their row -/
theorem row_list {m : Nat} (ok : PreOk ops m) : ∀ (c n' k : Nat) {listed : Array Bool} {a : Act} {w : World}, ops.size ≤ k + c → m ≤ k → k ≤ ops.size → listed.size = ops.size → (∀ i, i < ops.size → listed.getD i true = Nat.blt i k) →
    wpListIn (FW r) n P ops Q (ops.toList.drop k) a w → ops.size ≤ n' + k → wpAnyIn (FW r) n P .any ops Q n' listed a w := by
  intro c
  induction c with
  | zero =>
    intro n' k listed a w hc hm hks hs hl H hnk
    obtain rfl : k = ops.size := by omega
    have hr : Region.ready .any ops listed = [] := by
      cases hr : Region.ready .any ops listed with
      | nil => rfl
      | cons j r =>
        have hj : j ∈ Region.ready .any ops listed := by rw [hr]; exact List.mem_cons_self
        obtain ⟨hun, o, ho, _⟩ := mem_ready.1 hj
        have hjs := (Array.getElem?_eq_some_iff.1 ho).1
        rw [hl j hjs, lt_blt hjs] at hun
        cases hun
    have hd : ops.toList.drop ops.size = [] := List.drop_eq_nil_of_le (by simp)
    rw [hd] at H
    have hq : Q .normal a w := H
    cases n' with
    | zero => exact ⟨hr, hq⟩
    | succ n' => exact ⟨fun _ => hq, fun j hj => by rw [hr] at hj; cases hj⟩
  | succ c ih =>
    intro n' k listed a w hc hm hks hs hl H hnk
    by_cases hke : k = ops.size
    · exact ih n' k (by omega) hm hks hs hl H hnk
    have hlt : k < ops.size := by omega
    obtain ⟨n', rfl⟩ : ∃ q, n' = q + 1 := ⟨n' - 1, by omega⟩
    have ho : ops[k]? = some ops[k] := Array.getElem?_eq_getElem hlt
    have hself : Nat.blt k k = false := by
      cases hb : Nat.blt k k
      · rfl
      · have := blt_lt hb; omega
    have hkr : k ∈ Region.ready .any ops listed := mem_ready.2 ⟨by rw [hl k hlt]; exact hself, _, ho, fun e he hb => by
      have h1 := ok.top k _ ho e he hb
      exact listed_lt hs (by omega) (by rw [hl e.on (by omega)]; exact lt_blt h1) false⟩
    refine ⟨fun hr => (by rw [hr] at hkr; cases hkr), fun j hj => ?_⟩
    have hjk : j = k := by
      obtain ⟨hun, o, hoj, _⟩ := mem_ready.1 hj
      have hjs := (Array.getElem?_eq_some_iff.1 hoj).1
      rw [hl j hjs] at hun
      have hge : k ≤ j := by
        rcases Nat.lt_or_ge j k with h | h
        · rw [lt_blt h] at hun; cases hun
        · exact h
      rcases Nat.lt_or_ge k j with h | h
      · have := rdy_of (S := fun x => Nat.blt x k) hj fun x hx => by
          have hxs : x < ops.size := by
            rw [← hs]
            rcases Nat.lt_or_ge x listed.size with h | h
            · exact h
            · rw [Array.getD_eq_getD_getElem?, Array.getElem?_eq_none h] at hx; cases hx
          have := listed_lt hs hxs hx true
          rw [hl x hxs] at this
          exact this
        rw [ok.row k j hm h hjs] at this
        cases this
      · omega
    subst hjk
    have hdr : ops.toList.drop j = ops[j] :: ops.toList.drop (j + 1) := by
      rw [List.drop_eq_getElem_cons (by simpa using hlt)]
      simp
    rw [hdr] at H
    unfold wpListIn at H
    have next : ∀ a' w', wpListIn (FW r) n P ops Q (ops.toList.drop (j + 1)) a' w' → wpAnyIn (FW r) n P .any ops Q n' (listed.setIfInBounds j true) a' w' := fun a' w' H' => by
      refine ih n' (j + 1) (by omega) (by omega) (by omega) (by rw [Array.size_setIfInBounds]; exact hs) (fun i hi => ?_) H' (by omega)
      by_cases hij : i = j
      · subst hij
        rw [Array.getD_eq_getD_getElem?, Array.getElem?_setIfInBounds_self_of_lt (by omega)]
        exact (lt_blt (Nat.lt_succ_self i)).symm
      · rw [getD_set_ne true (Ne.symm hij), hl i hi]
        cases h1 : Nat.blt i j <;> cases h2 : Nat.blt i (j + 1)
        · rfl
        · have := blt_lt h2
          have h3 : i < j := by omega
          rw [lt_blt h3] at h1; cases h1
        · have := blt_lt h1
          have h3 : i < j + 1 := by omega
          rw [lt_blt h3] at h2; cases h2
        · rfl
    unfold wpOpIn
    rw [ho]
    simp only
    split
    · rename_i hw
      rw [if_pos hw] at H
      exact Oper.wpIn_mono next H
    · rename_i hw
      rw [if_neg hw] at H
      exact ⟨H.1, next _ _ H.2⟩
/-- the first ones, in whatever order; then the others -/
theorem pre_any {m : Nat} {X : Act → World → Prop} (ok : PreOk ops m) (hms : m ≤ ops.size) (hts : tk.size = m) (htk : ∀ k, k < m → tk[k]? = ops[k]?) (hX : ∀ a w, X a w → wpListIn (FW r) n P ops Q (ops.toList.drop m) a w) (d : Nat) (hd : ops.size ≤ d + m) :
    ∀ (c : Nat) {lt listed : Array Bool} {a : Act} {w : World}, lt.size = m → listed.size = ops.size → (∀ i, i < m → listed.getD i true = lt.getD i true) → (∀ i, m ≤ i → i < ops.size → listed.getD i true = false) →
    (∀ j oj, j < m → ops[j]? = some oj → listed.getD j true = true → ∀ e ∈ oj.after, Region.binds .any e = true → listed.getD e.on true = true) →
    wpAnyIn (FW r) n P .any tk (fun e a w => e = .normal ∧ X a w) c lt a w → wpAnyIn (FW r) n P .any ops Q (c + d) listed a w := by
  have noOut : LetsOut (fun e a w => e = Exit.normal ∧ X a w) → LetsOut Q := fun ⟨_, _, h, _⟩ => by cases h
  -- where all are listed
  have fin : ∀ (n' : Nat) {lt listed : Array Bool} {a : Act} {w : World}, listed.size = ops.size → (∀ i, i < m → listed.getD i true = lt.getD i true) → (∀ i, m ≤ i → i < ops.size → listed.getD i true = false) → (∀ i, i < m → lt.getD i true = true) → d ≤ n' → X a w → wpAnyIn (FW r) n P .any ops Q n' listed a w := by
    intro n' lt listed a w hs hl hrest hall hn HX
    refine row_list ok (ops.size - m) n' m (by omega) (Nat.le_refl _) hms hs (fun i hi => ?_) (hX a w HX) (by omega)
    rcases Nat.lt_or_ge i m with h | h
    · rw [hl i h, hall i h, lt_blt h]
    · rw [hrest i h hi]
      cases hb : Nat.blt i m
      · rfl
      · have := blt_lt hb; omega
  -- nothing ready: all are listed
  have nil_all : ∀ {lt : Array Bool}, lt.size = m → Region.ready .any tk lt = [] → ∀ k, k < m → lt.getD k true = true := by
    intro lt hls hr k
    induction k using Nat.strongRecOn with
    | _ k ih =>
      intro hk
      cases hc : lt.getD k true
      · have ho : tk[k]? = some tk[k] := Array.getElem?_eq_getElem (by omega)
        have ho' : ops[k]? = some tk[k] := by rw [← htk k hk]; exact ho
        have : k ∈ Region.ready .any tk lt := mem_ready.2 ⟨hc, _, ho, fun e he hb => by
          have h1 := ok.top k _ ho' e he hb
          have h2 := ih e.on h1 (by omega)
          rw [Array.getD_eq_getD_getElem?, Array.getElem?_eq_getElem (show e.on < lt.size by omega)] at h2 ⊢
          exact h2⟩
        rw [hr] at this
        cases this
      · rfl
  intro c
  induction c with
  | zero =>
    intro lt listed a w hls hs hl hrest hcl H
    exact fin _ hs hl hrest (nil_all hls H.1) (by omega) H.2.2
  | succ c ih =>
    intro lt listed a w hls hs hl hrest hcl H
    by_cases hr : Region.ready .any tk lt = []
    · exact fin _ hs hl hrest (nil_all hls hr) (by omega) (H.1 hr).2
    rw [show c + 1 + d = (c + d) + 1 by omega]
    have eqv : ∀ x, x < m → listed.getD x false = lt.getD x false := fun x hx => by
      have := hl x hx
      rw [Array.getD_eq_getD_getElem?, Array.getD_eq_getD_getElem?, Array.getElem?_eq_getElem (show x < listed.size by omega), Array.getElem?_eq_getElem (show x < lt.size by omega)] at this
      rw [Array.getD_eq_getD_getElem?, Array.getD_eq_getD_getElem?, Array.getElem?_eq_getElem (show x < listed.size by omega), Array.getElem?_eq_getElem (show x < lt.size by omega)]
      exact this
    have up : ∀ j, j ∈ Region.ready .any tk lt → j ∈ Region.ready .any ops listed := fun j hj => by
      obtain ⟨hun, o, ho, hall⟩ := mem_ready.1 hj
      have hjm : j < m := by rw [← hts]; exact (Array.getElem?_eq_some_iff.1 ho).1
      have ho' : ops[j]? = some o := by rw [← htk j hjm]; exact ho
      exact mem_ready.2 ⟨by rw [hl j hjm]; exact hun, o, ho', fun e he hb => by
        have h1 := ok.top j _ ho' e he hb
        rw [eqv e.on (by omega)]
        exact hall e he hb⟩
    have un : ∃ i, i < m ∧ listed.getD i true = false := by
      cases hq : Region.ready .any tk lt with
      | nil => exact absurd hq hr
      | cons j l =>
        have hj : j ∈ Region.ready .any tk lt := by rw [hq]; exact List.mem_cons_self
        obtain ⟨hun, o, ho, _⟩ := mem_ready.1 hj
        have hjm : j < m := by rw [← hts]; exact (Array.getElem?_eq_some_iff.1 ho).1
        exact ⟨j, hjm, by rw [hl j hjm]; exact hun⟩
    obtain ⟨i, him, hiun⟩ := un
    refine ⟨fun h0 => ?_, fun k hk => ?_⟩
    · cases hq : Region.ready .any tk lt with
      | nil => exact absurd hq hr
      | cons j l =>
        have hj := up j (by rw [hq]; exact List.mem_cons_self)
        rw [h0] at hj; cases hj
    obtain ⟨hun, o, ho, hall⟩ := mem_ready.1 hk
    have hks : k < ops.size := (Array.getElem?_eq_some_iff.1 ho).1
    have hkm : k < m := by
      rcases Nat.lt_or_ge k m with h | hge
      · exact h
      have key : ∀ c, c ≤ m → ∀ q ∈ cov ops k m c, q < m ∧ listed.getD q true = true := fun c => by
        induction c with
        | zero => intro _ q hq; cases hq
        | succ c ih =>
          intro hc q hq
          have ih := ih (by omega)
          unfold cov at hq
          cases hb : wtB ops (m - (c + 1)) k || (cov ops k m c).any (fun j => wtB ops (m - (c + 1)) j)
          · rw [hb] at hq; exact ih q hq
          · rw [hb, cond_true] at hq
            rcases List.mem_cons.1 hq with rfl | hq
            · refine ⟨by omega, ?_⟩
              rcases (by simpa only [Bool.or_eq_true] using hb : wtB ops (m - (c + 1)) k = true ∨ (cov ops k m c).any (fun j => wtB ops (m - (c + 1)) j) = true) with h1 | h1
              · unfold wtB at h1
                rw [ho] at h1
                obtain ⟨e, he, hbe, heq⟩ := waits_on h1
                rw [← heq]; exact getD_of_true (hall e he hbe) true
              · obtain ⟨j, hj, h2⟩ := List.any_eq_true.1 h1
                obtain ⟨hjm, hjl⟩ := ih j hj
                unfold wtB at h2
                split at h2
                · rename_i oj hoj
                  obtain ⟨e, he, hbe, heq⟩ := waits_on h2
                  rw [← heq]; exact hcl j oj hjm hoj hjl e he hbe
                · cases h2
            · exact ih q hq
      rcases ok.wait k hge hks with ⟨j, hmj, hjs, hw⟩ | hall'
      · unfold wtB at hw
        rw [ho] at hw
        obtain ⟨e, he, hbe, heq⟩ := waits_on hw
        have h5 := getD_of_true (hall e he hbe) true
        rw [heq, hrest j hmj hjs] at h5
        cases h5
      · have := (key m (Nat.le_refl _) i (hall' i him)).2
        rw [this] at hiun
        cases hiun
    have htk' : tk[k]? = some o := by rw [htk k hkm]; exact ho
    have hkt : k ∈ Region.ready .any tk lt := mem_ready.2 ⟨by rw [← hl k hkm]; exact hun, o, htk', fun e he hb => by
      have h1 := ok.top k _ ho e he hb
      rw [← eqv e.on (by omega)]
      exact hall e he hb⟩
    have h2 := H.2 k hkt
    have hg := ok.grd k o hkm ho
    unfold wpOpIn at h2 ⊢
    rw [htk'] at h2
    rw [ho]
    simp only at h2 ⊢
    have hwd : ∀ (y : Nat → Option Bool), Region.wanted o y = true := fun y => by unfold Region.wanted; rw [hg]
    rw [if_pos (hwd _)] at h2 ⊢
    refine opIn_mono2 (fun a' w' h3 => ?_) (fun c a w hq => by cases hq.1) noOut h2
    refine ih (by rw [Array.size_setIfInBounds]; exact hls) (by rw [Array.size_setIfInBounds]; exact hs) (fun i hi => ?_) (fun i h1 h2 => ?_) (fun j oj hj hoj hlj e he hb => ?_) h3
    · by_cases hik : k = i
      · subst hik
        rw [Array.getD_eq_getD_getElem?, Array.getElem?_setIfInBounds_self_of_lt (by omega), Array.getD_eq_getD_getElem?, Array.getElem?_setIfInBounds_self_of_lt (by omega)]
      · rw [getD_set_ne true hik, getD_set_ne true hik, hl i hi]
    · rw [getD_set_ne true (show k ≠ i by omega)]; exact hrest i h1 h2
    · have step : listed.getD e.on true = true → (listed.setIfInBounds k true).getD e.on true = true := fun h => by
        by_cases hke : k = e.on
        · rw [← hke, Array.getD_eq_getD_getElem?, Array.getElem?_setIfInBounds_self_of_lt (by omega)]; rfl
        · rw [getD_set_ne true hke]; exact h
      refine step ?_
      by_cases hkj : k = j
      · subst hkj
        obtain rfl : o = oj := Option.some.inj (ho.symm.trans hoj)
        exact getD_of_true (hall e he hb) true
      · rw [getD_set_ne true hkj] at hlj
        exact hcl j oj hj hoj hlj e he hb
theorem region_pre {id : Nat} {l1 l2 : List Oper} {a : Act} {w : World} (hm : P.follows .mixedOrders = true) (hops : ops.toList = l1 ++ l2) (hk : preOk ops l1.length = true)
    (H : wpAnyIn (FW r) n P .any l1.toArray (fun e a w => e = .normal ∧ wpListIn (FW r) n P ops Q l2 a w) l1.length (Array.replicate l1.length false) a { w with drawn := w.drawn + 1 }) : (Code.region id ops true).wpIn (FW r) n P Q a w := by
  have hsz : ops.size = l1.length + l2.length := by rw [← Array.length_toList, hops, List.length_append]
  have hdr : ops.toList.drop l1.length = l2 := by rw [hops, List.drop_left]
  refine wpIn_region_any hm ?_
  rw [hsz]
  refine pre_any (tk := l1.toArray) (preOk_ok hk) (by omega) (by simp) (fun k hk => ?_) (fun a w h => by rw [hdr]; exact h) l2.length (by omega) l1.length (by simp) (by simp [hsz]) (fun i hi => ?_) (fun i h1 h2 => ?_) (fun j oj hj hoj hlj => ?_) H
  · rw [← Array.getElem?_toList, ← Array.getElem?_toList, hops, List.getElem?_append_left hk]
  · rw [Array.getD_eq_getD_getElem?, Array.getD_eq_getD_getElem?, Array.getElem?_replicate, Array.getElem?_replicate, if_pos (by omega), if_pos hi]
  · rw [Array.getD_eq_getD_getElem?, Array.getElem?_replicate, if_pos (by omega)]; rfl
  · rw [Array.getD_eq_getD_getElem?, Array.getElem?_replicate, if_pos (by omega)] at hlj
    cases hlj
end
section
variable {P : Program} {E : Env} {F : Tm} {h : Hp} {w w0 : World} {G : Nat → Prop} {a : Act}
/-- a region that draws, evaluated: its orders -/
theorem drIn {gs : List (FuncId × Spec)} (hm : Fit P) (hΓ : GamL P gs) (r : Option Nat) (m n f id : Nat) {ops : Array Oper} {K : Out → Prop} {X : Act → World → Prop} (H : (evC P (gam gs) (lam []) (n + 1) f (.region id ops true) F h).holds K) (hd : noDef ops.toList = true) (I : Inv P w0 G E h w) (hT : RelT E F a)
    (hp : ∀ F' h' E' a' w', K (.normal, F', h') → Stepd P w0 G E h w E' h' w' → RelT E' F' a' → FarK w w' → X a' w') : wpAnyIn (FW r) m P .any ops (fun e a w => e = .normal ∧ X a w) ops.size (Array.replicate ops.size false) a { w with drawn := w.drawn + 1 } := by
  have only_ : ¬ LetsOut (fun e a w => e = Exit.normal ∧ X a w) := fun ⟨_, _, h, _⟩ => by cases h
  have hcall := callE_ok hm.2 (codeOk hm (gam_ok hΓ) (lam_ok (l := []) trivial) n).1 (gam_ok hΓ) (lam_ok (l := []) trivial)
  have hdr := I.top.drew (w.drawn + 1)
  have fin : ∀ F' h' E' a' w', K (.normal, F', h') → Stepd P w E.mine E h { w with drawn := w.drawn + 1 } E' h' w' → RelT E' F' a' → X a' w' := fun F' h' E' a' w' hk hs hT' => by
    have S := hdr.trans hs
    exact hp _ _ _ _ _ hk (S.under I) hT' (far_kept I S)
  unfold evC at H
  simp only at H
  cases hqr : asRow P (lam []) f id ops
  case true =>
    rw [hqr] at H
    simp only [cond_true] at H
    rw [RT.holds_bind] at H
    have hq : quietR P ops = true := by
      unfold asRow at hqr
      split at hqr
      · cases hqr
      · exact hqr
    exact anyIn only_ hd _ _ _ _ (evReg_ok hcall hq H hdr.inv hT fun F' h' E' a' w' hk hs hT' => ⟨rfl, fin _ _ _ _ _ hk hs hT'⟩)
  rw [hqr] at H
  simp only [cond_false] at H
  cases hla : asLate P (lam []) f id ops
  case true =>
    rw [hla] at H
    simp only [cond_true] at H
    rw [RT.holds_bind] at H
    exact anyIn only_ hd _ _ _ _ (wpL_any _ _ [] _ _ (evLateR_ok hcall (asLate_ok hla) (fun _ _ _ _ _ hq => by cases hq.1) H hdr.inv hT fun F' h' E' a' w' hk hs hT' => ⟨rfl, fin _ _ _ _ _ hk hs hT'⟩))
  rw [hla] at H
  simp only [cond_false] at H
  cases hns : Region.noSelect ops
  · rw [hns] at H; exact H.elim
  rw [hns] at H
  simp only [cond_true] at H
  rw [RT.holds_bind] at H
  exact anyIn only_ hd _ _ _ _ (wpL_any _ _ [] _ _ (evDrawn_ok erOf_ok hcall hns (fun _ _ _ _ _ hq => by cases hq.1) _ H hdr.inv hT .nil fun F' h' E' a' w' hk hs hT' => ⟨rfl, fin _ _ _ _ _ hk hs hT'⟩))
end
end
end Go.Proofs.YtomblhnchdokmaaGreatDoor

namespace Go.Proofs.YtomblhnchdokmaaGreatDoor
set_option linter.unusedSimpArgs false
set_option linter.unusedVariables false
open Go.RowKit
set_option maxRecDepth 10000
noncomputable section

def Ex.goOn : Ex → Bool
  | .normal => true
  | _ => false
/-- a loop, as its rounds see it: the frame at its entry, the function, the parameters, the assignment, the body -/
structure Lp where
  F : Tm
  f : FuncId
  ps : List Nat
  asn : Code
  bd : Code
def putP (F : Tm) : List (Nat × AV) → Tm
  | [] => F
  | (t, x) :: r => putP { F with tm := (t, x) :: F.tm } r
section
/-- an evaluator of code -/
abbrev EvC := Nat → FuncId → Code → Tm → Hp → RT Out
/-- one of operations -/
abbrev EvL := (FuncId → Spec) → Array Oper → List Oper → Tm → Hp → RT (Tm × Hp)
variable (P : Program) (gs : List (FuncId × Spec)) (C : EvC) (LS : EvL)
/-- one round -/
def roundYg (n : Nat) (lp : Lp) (args : List AV) (h : Hp) : RT (Ex × Hp) :=
  bif Nat.beq args.length lp.ps.length && (lp.ps.all (fun t => Nat.blt t lp.F.nt) && (calmC lp.asn && calmC lp.bd)) then
    (C n lp.f lp.asn (putP lp.F (lp.ps.zip args)) h).bind fun r => match r.1 with
      | .normal => (C n lp.f lp.bd r.2.1 r.2.2).bind fun q => .ok (q.1, q.2.2)
      | _ => .bad 185
  else .bad 186
/-- operations ahead of a call of a value, the call, the others -/
def splitY : List Oper → Option (List Oper × Oper × List Oper)
  | [] => none
  | o :: r => match o.op with
    | .call ⟨.value (.tmp _), _, _⟩ => some ([], o, r)
    | _ => (splitY r).map fun x => (o :: x.1, x.2.1, x.2.2)
abbrev OutY := Ex × Tm × Hp × Ex
/-- operations, with yields among them -/
def listYg (n : Nat) (lp : Lp) (ops : Array Oper) : Nat → List Oper → Tm → Hp → Ex → RT (Tm × Hp × Ex)
  | 0, _, _, _, _ => .bad 187
  | k + 1, l, F, h, pe => match splitY l with
    | none => (LS (callE P (gam gs) (C n)) ops l F h).bind fun r => .ok (r.1, r.2, pe)
    | some (l1, o, l2) => (LS (callE P (gam gs) (C n)) ops l1 F h).bind fun x => match o.op with
      | .call ⟨.value y, args, _⟩ => match opnd x.1 y with
        | .fn (.method _) [] [] => match o.guard, pe with
          | none, .normal => (roundYg C n lp (args.toList.map (opnd x.1)) x.2).bind fun e =>
            (putA x.1 o.dst (.sc true (.bool e.1.goOn))).bind fun F' => listYg n lp ops k l2 F' e.2 e.1
          | _, _ => .bad 188
        | _ => (LS (callE P (gam gs) (C n)) ops [o] x.1 x.2).bind fun r => listYg n lp ops k l2 r.1 r.2 pe
      | _ => .bad 189
/-- an iterator's body -/
def evYg (lp : Lp) : Nat → FuncId → Code → Tm → Hp → Ex → RT OutY
  | 0, _, _, _, _, _ => .bad 190
  | n + 1, f, c, F, h, pe => match c with
    | .skip => .ok (.normal, F, h, pe)
    | .region _ ops false => bif noDef ops.toList then (listYg P gs C LS n lp ops ops.size.succ ops.toList F h pe).bind fun r => .ok (.normal, r.1, r.2.1, r.2.2) else .bad 191
    | .region id ops true => match splitY ops.toList with
      | none => (C (n + 1) f (.region id ops true) F h).bind fun r => .ok (r.1, r.2.1, r.2.2, pe)
      | some q => bif preOk ops q.1.length && noDef ops.toList then
          (C (n + 1) f (.region id q.1.toArray true) F h).bind fun r => match r.1 with
            | .normal => (listYg P gs C LS n lp ops ops.size.succ (q.2.1 :: q.2.2) r.2.1 r.2.2 pe).bind fun x => .ok (.normal, x.1, x.2.1, x.2.2)
            | _ => .bad 195
        else (C (n + 1) f (.region id ops true) F h).bind fun r => .ok (r.1, r.2.1, r.2.2, pe)
    | .seq a b => (evYg lp n f a F h pe).bind fun r => match r.1 with | .normal => evYg lp n f b r.2.1 r.2.2.1 r.2.2.2 | _ => .ok r
    | .cond c a b => match c with
      | .tmp t => match look t F.tm with
        | .sc kn (.bool v) => brk kn v (evYg lp n f a (setA F t true) h pe) (evYg lp n f b (setA F t false) h pe)
        | _ => .bad 192
      | _ => .bad 193
    | .block id b => (evYg lp n f b F h pe).bind fun r => match r.1 with
      | .exit j => bif Nat.beq j id then .ok (.normal, r.2) else .ok r
      | _ => .ok r
    | .loop b => (evYg lp n f b F h pe).bind fun r => match r.1 with
      | .normal => evYg lp n f (.loop b) r.2.1 r.2.2.1 r.2.2.2
      | _ => .ok r
    | .exit id => .ok (.exit id, F, h, pe)
    | .ret => .ok (.ret, F, h, pe)
    | _ => .bad 194
abbrev roundY := roundYg (evC P (gam gs) (lam []))
abbrev listY := listYg P gs (evC P (gam gs) (lam [])) (evList P)
abbrev evY := evYg P gs (evC P (gam gs) (lam [])) (evList P)
end
/-- the parameters put -/
theorem putP_nt : ∀ (l : List (Nat × AV)) (F : Tm), (putP F l).nt = F.nt
  | [], _ => rfl
  | (_, _) :: r, _ => (putP_nt r _)
theorem rel_putP {E : Env} : ∀ (ps : List Nat) (xs : List AV) (vs : List Value) (F : Tm) (t0 : Array Value), ps.length = xs.length → (∀ t ∈ ps, t < F.nt) → RelT E F { tmps := t0, defers := [] } → RelL E xs vs →
    RelT E (putP F (ps.zip xs)) { tmps := (ps.zip vs).foldl (fun t p => t.setIfInBounds p.1 p.2) t0, defers := [] }
  | [], xs, vs, F, t0, _, _, hT, _ => by simpa [putP] using hT
  | p :: ps, [], _, _, _, hl, _, _, _ => by cases hl
  | p :: ps, x :: xs, _, F, t0, hl, hp, hT, ⟨v, vs', rfl, h1, h2⟩ => by
    have := hT.put1 (t := p) (hp p (List.mem_cons_self ..)) h1
    exact rel_putP ps xs vs' { F with tm := (p, x) :: F.tm } (t0.setIfInBounds p v) (by simpa using hl) (fun t ht => hp t (List.mem_cons_of_mem _ ht)) this h2
theorem zip_fold (ps : Array Nat) (vs : Array Value) (t0 : Array Value) : (ps.zip vs).foldl (fun t (p, v) => t.setIfInBounds p v) t0 = (ps.toList.zip vs.toList).foldl (fun t p => t.setIfInBounds p.1 p.2) t0 := by
  rw [← Array.foldl_toList, Array.toList_zip]
/-- a round is told right -/
theorem roundY_ok {P : Program} {gs : List (FuncId × Spec)} {E : Env} {h : Hp} {w w0 : World} {G : Nat → Prop} (hm : Fit P) (hΓ : GamL P gs) (m n : Nat) {lp : Lp} {xs : List AV} {vs : Array Value} {L : Nat} {R : Loop} {K : Ex × Hp → Prop} (H : (roundY P gs n lp xs h).holds K) (hL : w.heap[L]? = some (.loop R)) (hst : R.state = .ready) (hpe : R.pending = none) (hL0 : w0.heap.size ≤ L) (I : Inv P w0 G E h w)
    (hT : RelT E lp.F { tmps := R.tmps, defers := [] }) (hps : R.params.toList = lp.ps) (ha : R.assign = lp.asn) (hb : R.body = lp.bd) (hx : RelL E xs vs.toList) :
    RoundIn (FW none) m P L R.fn ((R.params.zip vs).foldl (fun t (p, v) => t.setIfInBounds p v) R.tmps) R.assign R.body w fun e w' => ∃ ex h2 E2, K (ex, h2) ∧ Stepd P w0 G E h w E2 h2 w' ∧ FarX L w w' ∧
      ((ex = .normal ∧ e = .returned (.bool true) ∧ w'.heap[L]? = some (.loop R)) ∨ (ex ≠ .normal ∧ e = .returned (.bool false) ∧ w'.heap[L]? = some (.loop { R with state := .done, pending := ex.cd }))) := by
  unfold roundY roundYg at H
  cases hc : (Nat.beq xs.length lp.ps.length && (lp.ps.all (fun t => Nat.blt t lp.F.nt) && (calmC lp.asn && calmC lp.bd)))
  · rw [hc] at H; exact H.elim
  rw [hc] at H
  simp only [cond_true] at H
  simp only [Bool.and_eq_true] at hc
  obtain ⟨c1, c2, c3, c4⟩ := hc
  have hlen : lp.ps.length = xs.length := (Nat.eq_of_beq_eq_true c1).symm
  have hlt : ∀ t ∈ lp.ps, t < lp.F.nt := fun t ht => by simpa [Nat.blt_eq] using List.all_eq_true.1 c2 t ht
  have hT2 := rel_putP lp.ps xs vs.toList lp.F R.tmps hlen hlt hT hx
  rw [← hps, ← zip_fold, hps] at hT2
  rw [RT.holds_bind] at H
  refine (roundE hm hΓ m n lp.f (K := fun o => K (o.1, o.2.2)) hL hst hpe hL0 I hT2 (by rw [ha]; exact c3) (by rw [hb]; exact c4) ?_).mono ?_
  · rw [ha, hb]
    refine RT.holds_mono ?_ _ H
    rintro ⟨ex, F1, h1⟩ hk
    cases ex with
    | normal => exact ⟨rfl, by rw [RT.holds_bind] at hk; exact hk⟩
    | exit id => exact hk.elim
    | ret => exact hk.elim
  · rintro e w' ⟨ex, F2, h2, E2, hK, S, hf, hr⟩
    exact ⟨ex, h2, E2, hK, S, hf, hr⟩
theorem splitY_eq : ∀ {l l1 l2 : List Oper} {o : Oper}, splitY l = some (l1, o, l2) → l = l1 ++ o :: l2
  | [], _, _, _, h => by cases h
  | x :: r, l1, l2, o, h => by
    unfold splitY at h
    split at h
    · cases h; rfl
    · cases hs : splitY r with
      | none => rw [hs] at h; cases h
      | some q =>
        obtain ⟨q1, q2, q3⟩ := q
        rw [hs] at h
        simp only [Option.map_some, Option.some.injEq, Prod.mk.injEq] at h
        obtain ⟨rfl, rfl, rfl⟩ := h
        rw [splitY_eq hs]; rfl
theorem noDef_app {l r : List Oper} (h : noDef (l ++ r) = true) : noDef l = true ∧ noDef r = true := by
  unfold noDef at h ⊢
  rw [List.all_append, Bool.and_eq_true] at h
  exact h
/-- the loop's record -/
def Lat (w : World) (L : Nat) (R : Loop) (pe : Ex) : Prop := w.heap[L]? = some (.loop (match pe with | .normal => R | ex => { R with state := .done, pending := ex.cd }))
theorem Lat.far {w w' : World} {L : Nat} {R : Loop} {pe : Ex} (h : Lat w L R pe) (k : FarK w w') : Lat w' L R pe := k _ _ h rfl
/-- what a loop's rounds want -/
structure LpOk (lp : Lp) (R : Loop) (E : Env) : Prop where
  hst : R.state = .ready
  hpe : R.pending = none
  hps : R.params.toList = lp.ps
  ha : R.assign = lp.asn
  hb : R.body = lp.bd
  hT : RelT E lp.F { tmps := R.tmps, defers := [] }
theorem LpOk.mono {lp : Lp} {R : Loop} {E E' : Env} (H : LpOk lp R E) (h : Ext E E') : LpOk lp R E' := ⟨H.hst, H.hpe, H.hps, H.ha, H.hb, H.hT.mono h⟩
theorem listY_ok {P : Program} {gs : List (FuncId × Spec)} (hm : Fit P) (hΓ : GamL P gs) (m n : Nat) {lp : Lp} {L : Nat} {R : Loop} {w0 : World} {G : Nat → Prop} {ops : Array Oper} {Q : Exit → Act → World → Prop} {K : Tm × Hp × Ex → Prop} (hL0 : w0.heap.size ≤ L) (hQ : ¬ LetsOut Q) : ∀ (k : Nat) (l : List Oper) (F : Tm) (h : Hp) (pe : Ex) (E : Env) (a : Act) (w : World), (listY P gs n lp ops k l F h pe).holds K → noDef l = true → E.yl = L → LpOk lp R E → Inv P w0 G E h w → RelT E F a → Lat w L R pe →
    (∀ F' h' pe' E' a' w', K (F', h', pe') → Stepd P w0 G E h w E' h' w' → RelT E' F' a' → Lat w' L R pe' → FarX L w w' → Q .normal a' w') → wpListIn (FW none) m P ops Q l a w
  | 0, _, _, _, _, _, _, _, H, _, _, _, _, _, _, _ => H.elim
  | k + 1, l, F, h, pe, E, a, w, H, hd, hy, hlp, I, hT, hlat, hp => by
    unfold listY listYg at H
    cases hs : splitY l with
    | none =>
      rw [hs] at H
      simp only at H
      rw [RT.holds_bind] at H
      rw [← List.append_nil l]
      refine preIn hm hΓ none m n lp.f l [] H hd hQ I hT ?_
      intro F' h' E' a' w' hk S hT' hf
      exact hp _ _ _ _ _ _ hk S hT' (hlat.far hf) (hf.x L)
    | some q =>
      obtain ⟨l1, o, l2⟩ := q
      rw [hs] at H
      simp only at H
      rw [RT.holds_bind] at H
      have hl := splitY_eq hs
      subst hl
      have hd1 := (noDef_app hd).1
      have hd2 : noDef l2 = true := by
        have := (noDef_app hd).2
        simp only [noDef, List.all_cons, Bool.and_eq_true] at this ⊢
        exact this.2
      refine preIn hm hΓ none m n lp.f l1 (o :: l2) H hd1 hQ I hT ?_
      intro F1 h1 E1 a1 w1 hk S1 hT1 hf1
      have hlat1' := hlat.far hf1
      have hlp1' := hlp.mono S1.ext
      have hd0 : noDef [o] = true := by
        have := (noDef_app hd).2
        simp only [noDef, List.all_cons, List.all_nil, Bool.and_eq_true, Bool.and_true] at this ⊢
        exact this.1
      simp only at hk
      split at hk
      case h_2 => exact hk.elim
      rename_i y args ts hop
      split at hk
      case h_2 =>
        rw [RT.holds_bind] at hk
        refine preIn hm hΓ none m n lp.f [o] l2 hk hd0 hQ S1.inv hT1 ?_
        intro F2 h2 E2 a2 w2 hk2 S2 hT2 hf2
        refine listY_ok hm hΓ m n hL0 hQ k l2 F2 h2 pe E2 _ w2 hk2 hd2 (S2.ext.yl.trans (S1.ext.yl.trans hy)) (hlp1'.mono S2.ext) S2.inv hT2 (hlat1'.far hf2) ?_
        intro F3 h3 pe3 E3 a3 w3 hk3 S3 hT3 hl3 hf3
        exact hp _ _ _ _ _ _ hk3 ((S1.trans S2).trans S3) hT3 hl3 (((hf1.x L).trans (hf2.x L)).trans hf3)
      rename_i nm hyo
      split at hk
      case h_2 => exact hk.elim
      rename_i hgu
      obtain ⟨odst, oop, otype, opos, oafter, oguard⟩ := o
      simp only at hop hgu
      subst hop
      subst hgu
      rw [RT.holds_bind] at hk
      have hv := rel_opnd hT1 y
      rw [hyo] at hv
      obtain ⟨a', c', hv, g1, g2⟩ := hv
      obtain rfl : a' = #[] := by cases a' with | mk l => have : l = [] := g1; subst this; rfl
      obtain rfl : c' = #[] := by cases c' with | mk l => have : l = [] := g2; subst this; rfl
      have hyl : E1.yl = L := S1.ext.yl.trans hy
      have hv : a1.eval y = .func (.yield L) #[] #[] := by rw [hv]; simp only [ylF, hyl]
      have hlat1 : w1.heap[L]? = some (.loop R) := hlat.far hf1
      have hlp1 := hlp.mono S1.ext
      have hxs := rel_map hT1 args.toList
      have hsz : args.size = R.params.size := by
        have hk' := hk
        unfold roundY roundYg at hk'
        cases hc : Nat.beq (args.toList.map (opnd F1)).length lp.ps.length
        · rw [hc] at hk'; exact hk'.elim
        · have := Nat.eq_of_beq_eq_true hc
          rw [← hlp.hps] at this
          simpa using this
      have hgo : ∀ ex h2 E2 w2, ((putA F1 odst (.sc true (.bool ex.goOn))).bind fun F' => listY P gs n lp ops k l2 F' h2 ex).holds K → Stepd P w0 G E1 h1 w1 E2 h2 w2 → FarX L w1 w2 → Lat w2 L R ex → wpListIn (FW none) m P ops Q l2 (a1.put odst (.bool ex.goOn)) w2 := by
        intro ex h2 E2 w2 hk2 S2 hf2 hl2
        rw [RT.holds_bind] at hk2
        obtain ⟨F', hF, hT'⟩ := putA_ok hk2 (hT1.mono S2.ext) (u := .bool ex.goOn) ⟨rfl, rfl⟩
        refine listY_ok hm hΓ m n hL0 hQ k l2 F' h2 ex E2 _ w2 hF hd2 (S2.ext.yl.trans hyl) (hlp1.mono S2.ext) S2.inv hT' hl2 ?_
        intro F3 h3 pe3 E3 a3 w3 hk3 S3 hT3 hl3 hf3
        exact hp _ _ _ _ _ _ hk3 ((S1.trans S2).trans S3) hT3 hl3 (((hf1.x L).trans hf2).trans hf3)
      unfold wpListIn
      rw [if_pos (by simp [Region.wanted])]
      refine ⟨fun _ _ => trivial, ?_⟩
      rw [show Oper.semAt (FW none).round a1.eval _ = execOp a1.eval _ from rfl, run_yieldOp (P := P) rfl hv hlat1 hsz, Oper.uponIn_round]
      refine ⟨fun h => depthFW (r := none) h, (roundY_ok hm hΓ (m - 1) n hk hlat1 hlp1.hst hlp1.hpe hL0 S1.inv hlp1.hT hlp1.hps hlp1.ha hlp1.hb (by simpa using hxs)).mono ?_⟩
      rintro e w2 ⟨ex, h2, E2, hK, S2, hf2, (⟨rfl, rfl, hl⟩ | ⟨hne, rfl, hl⟩)⟩
      · exact hgo .normal _ _ _ hK S2 hf2 hl
      · cases ex with
        | normal => exact absurd rfl hne
        | ret => exact hgo .ret _ _ _ hK S2 hf2 hl
        | exit id => exact hgo (.exit id) _ _ _ hK S2 hf2 hl
/-- what stands behind an iterator's code -/
def PostY (P : Program) (w0 : World) (G : Nat → Prop) (L : Nat) (R : Loop) (E : Env) (h : Hp) (w : World) (K : OutY → Prop) (Q : Exit → Act → World → Prop) : Prop :=
  ∀ ex F' h' pe' E' a' w', K (ex, F', h', pe') → Stepd P w0 G E h w E' h' w' → RelT E' F' a' → Lat w' L R pe' → FarX L w w' → Q ex.to a' w'
theorem PostY.step {P : Program} {w0 w w1 : World} {G : Nat → Prop} {L : Nat} {R : Loop} {E E1 : Env} {h h1 : Hp} {K : OutY → Prop} {Q : Exit → Act → World → Prop} (hp : PostY P w0 G L R E h w K Q) (hs : Stepd P w0 G E h w E1 h1 w1) (hf : FarX L w w1) : PostY P w0 G L R E1 h1 w1 K Q :=
  fun ex F' h' pe' E' a' w' hk hs' hT hl hf' => hp ex F' h' pe' E' a' w' hk (hs.trans hs') hT hl (hf.trans hf')
theorem evY_ok {P : Program} {gs : List (FuncId × Spec)} (hm : Fit P) (hΓ : GamL P gs) (m : Nat) {lp : Lp} {L : Nat} {R : Loop} {w0 : World} {G : Nat → Prop} (hL0 : w0.heap.size ≤ L) : ∀ n,
    (∀ f c F h pe K, (evY P gs lp n f c F h pe).holds K → calmC c = true → ∀ E w a Q, ¬ LetsOut Q → E.yl = L → LpOk lp R E → Inv P w0 G E h w → RelT E F a → Lat w L R pe → PostY P w0 G L R E h w K Q → c.wpIn (FW none) m P Q a w) ∧
    (∀ f b F h pe K, (evY P gs lp n f (.loop b) F h pe).holds K → calmC b = true → ∀ E w a Q, ¬ LetsOut Q → E.yl = L → LpOk lp R E → Inv P w0 G E h w → RelT E F a → Lat w L R pe → PostY P w0 G L R E h w K Q → Code.roundsIn (FW none) m P b Q n a w)
  | 0 => ⟨fun f c F h pe K H => by unfold evY evYg at H; exact H.elim, fun f b F h pe K H => by unfold evY evYg at H; exact H.elim⟩
  | n + 1 => by
    obtain ⟨ihc, ihl⟩ := evY_ok hm hΓ m hL0 n
    have then_ : ∀ {Q : Exit → Act → World → Prop} {K : Act → World → Prop}, ¬ LetsOut Q → ¬ LetsOut (Exit.then K Q) := fun hQ h => hQ h
    have loop : ∀ f b F h pe K, (evY P gs lp (n + 1) f (.loop b) F h pe).holds K → calmC b = true → ∀ E w a Q, ¬ LetsOut Q → E.yl = L → LpOk lp R E → Inv P w0 G E h w → RelT E F a → Lat w L R pe → PostY P w0 G L R E h w K Q → Code.roundsIn (FW none) m P b Q (n + 1) a w := by
      intro f b F h pe K H hc E w a Q hQ hy hlp I hT hl hp
      unfold evY evYg at H
      simp only at H
      rw [RT.holds_bind] at H
      rw [roundsIn_succ]
      refine ihc f b F h pe _ H hc E w a _ (then_ hQ) hy hlp I hT hl ?_
      intro ex F' h' pe' E' a' w' hk hs hT' hl' hf
      cases ex with
      | normal => exact ihl f b F' h' pe' K hk hc E' w' a' Q hQ (hs.ext.yl.trans hy) (hlp.mono hs.ext) hs.inv hT' hl' (hp.step hs hf)
      | exit id => exact hp _ _ _ _ _ _ _ hk hs hT' hl' hf
      | ret => exact hp _ _ _ _ _ _ _ hk hs hT' hl' hf
    refine ⟨fun f c F h pe K H hc E w a Q hQ hy hlp I hT hl hp => ?_, loop⟩
    have far0 : FarX L w w := (FarK.refl w).x L
    cases c with
    | skip => unfold evY evYg at H; exact wpIn_skip (hp _ _ _ _ _ _ _ H (Stepd.refl I) hT hl far0)
    | ret => unfold evY evYg at H; exact wpIn_ret (hp _ _ _ _ _ _ _ H (Stepd.refl I) hT hl far0)
    | exit id => unfold evY evYg at H; exact wpIn_exit (hp _ _ _ _ _ _ _ H (Stepd.refl I) hT hl far0)
    | loop b => exact wpIn_loop_rounds (n + 1) (loop f b F h pe K H hc E w a Q hQ hy hlp I hT hl hp)
    | region id ops draw =>
      cases draw with
      | false =>
        unfold evY evYg at H
        simp only at H
        cases hd : noDef ops.toList
        · rw [hd] at H; exact H.elim
        rw [hd] at H
        simp only [cond_true] at H
        rw [RT.holds_bind] at H
        exact wpIn_region_list (listY_ok hm hΓ m n hL0 hQ _ _ F h pe E a w H hd hy hlp I hT hl fun F' h' pe' E' a' w' hk hs hT' hl' hf => hp _ _ _ _ _ _ _ hk hs hT' hl' hf)
      | true =>
        unfold evY evYg at H
        simp only at H
        have whole : ((evC P (gam gs) (lam []) (n + 1) f (.region id ops true) F h).bind fun r => RT.ok (r.1, r.2.1, r.2.2, pe)).holds K → (Code.region id ops true).wpIn (FW none) m P Q a w := fun H => by
          rw [RT.holds_bind] at H
          exact segIn hm hΓ none m (n + 1) f H hc hQ I hT fun ex F' h' E' a' w' hk hs hT' hf => hp _ _ _ _ _ _ _ hk hs hT' (hl.far hf) (hf.x L)
        split at H
        · exact whole H
        · rename_i q hsp
          obtain ⟨l1, o, l2⟩ := q
          simp only at H
          cases hpk : preOk ops l1.length && noDef ops.toList
          · rw [hpk] at H; exact whole H
          rw [hpk, cond_true, RT.holds_bind] at H
          rw [Bool.and_eq_true] at hpk
          have hops := splitY_eq hsp
          have hdd := hpk.2
          rw [hops] at hdd
          refine region_pre hm.1 hops hpk.1 ?_
          have e1 : l1.toArray.size = l1.length := by simp
          have := drIn (X := fun a w => wpListIn (FW none) m P ops Q (o :: l2) a w) hm hΓ none m n f id (ops := l1.toArray) H (by simpa using (noDef_app hdd).1) I hT fun F' h' E' a' w' hk hs hT' hf => by
            simp only at hk
            rw [RT.holds_bind] at hk
            exact listY_ok hm hΓ m n hL0 hQ _ _ F' h' pe E' a' w' hk (noDef_app hdd).2 (hs.ext.yl.trans hy) (hlp.mono hs.ext) hs.inv hT' (hl.far hf) fun F2 h2 pe2 E2 a2 w2 hk2 hs2 hT2 hl2 hf2 => hp _ _ _ _ _ _ _ hk2 (hs.trans hs2) hT2 hl2 ((hf.x L).trans hf2)
          rwa [e1] at this
    | seq x y =>
      unfold evY evYg at H
      simp only at H
      rw [RT.holds_bind] at H
      simp only [calmC, Bool.and_eq_true] at hc
      refine wpIn_seq (ihc f x F h pe _ H hc.1 E w a _ (then_ hQ) hy hlp I hT hl ?_)
      intro ex F' h' pe' E' a' w' hk hs hT' hl' hf
      cases ex with
      | normal => exact ihc f y F' h' pe' K hk hc.2 E' w' a' Q hQ (hs.ext.yl.trans hy) (hlp.mono hs.ext) hs.inv hT' hl' (hp.step hs hf)
      | exit id => exact hp _ _ _ _ _ _ _ hk hs hT' hl' hf
      | ret => exact hp _ _ _ _ _ _ _ hk hs hT' hl' hf
    | cond c x y =>
      unfold evY evYg at H
      simp only at H
      simp only [calmC, Bool.and_eq_true] at hc
      split at H
      · rename_i t
        split at H
        · rename_i kn b hlk
          have hv := hT.tm t
          rw [hlk] at hv
          have hev : a.eval (.tmp t) = .bool b := hv.1
          have hset := setA_ok hT hlk
          rcases brk_holds H with ⟨rfl, H2⟩ | ⟨rfl, H2⟩
          · exact wpIn_cond_true hev (ihc f x _ h pe K H2 hc.1 E w a Q hQ hy hlp I hset hl hp)
          · exact wpIn_cond_false hev (ihc f y _ h pe K H2 hc.2 E w a Q hQ hy hlp I hset hl hp)
        · exact H.elim
      · exact H.elim
    | block id b =>
      unfold evY evYg at H
      simp only at H
      rw [RT.holds_bind] at H
      refine wpIn_block (ihc f b F h pe _ H hc E w a _ (fun h => hQ h) hy hlp I hT hl ?_)
      intro ex F' h' pe' E' a' w' hk hs hT' hl' hf
      cases ex with
      | normal => exact hp _ _ _ _ _ _ _ hk hs hT' hl' hf
      | ret => exact hp _ _ _ _ _ _ _ hk hs hT' hl' hf
      | exit j =>
        simp only at hk
        show Exit.inBlock id Q (.exit j) a' w'
        simp only [Exit.inBlock]
        cases hb : Nat.beq j id
        · rw [hb] at hk
          rw [if_neg (fun e => by rw [e] at hb; simp at hb)]
          exact hp _ _ _ _ _ _ _ hk hs hT' hl' hf
        · rw [hb] at hk
          rw [if_pos (Nat.eq_of_beq_eq_true hb)]
          exact hp _ _ _ _ _ _ _ hk hs hT' hl' hf
    | rangeFunc _ _ _ _ => unfold evY evYg at H; exact H.elim
    | scope _ => cases hc
    | label _ => unfold evY evYg at H; exact H.elim
    | goto _ => unfold evY evYg at H; exact H.elim
    | refuse _ => unfold evY evYg at H; exact H.elim
end
end Go.Proofs.YtomblhnchdokmaaGreatDoor

namespace Go.Proofs.YtomblhnchdokmaaGreatDoor
set_option linter.unusedSimpArgs false
set_option linter.unusedVariables false
open Go.RowKit
set_option maxRecDepth 10000
noncomputable section

def addD (a : Act) (ds : List Deferred) : Act := { a with defers := a.defers ++ ds }
def withA (ds : List Deferred) (Q : Exit → Act → World → Prop) : Exit → Act → World → Prop := fun e a w => ∃ a0 : Act, a = addD a0 ds ∧ Q e a0 w
theorem addD_eval (a : Act) (ds : List Deferred) : (addD a ds).eval = a.eval := by funext x; cases x <;> rfl
theorem addD_put (a : Act) (ds : List Deferred) (o : Option Tmp) (v : Value) : (addD a ds).put o v = addD (a.put o v) ds := by unfold Act.put; split <;> rfl
theorem addD_nil (a : Act) : addD a [] = a := by cases a; simp [addD]
section
variable {P : Program} {r : Option Nat} {n : Nat} {Q : Exit → Act → World → Prop} {ops : Array Oper}
theorem opAdd {a : Act} {w : World} (ds : List Deferred) {o : Oper} {K K' : Act → World → Prop} (hd : ∀ c, o.op ≠ .defer c) (hQ : ¬ LetsOut Q) (hn : ∀ a w, K a w → K' (addD a ds) w) (h : o.wpIn (FW r) n P a w K Q) : o.wpIn (FW r) n P (addD a ds) w K' (withA ds Q) := by
  have go : ∀ v W, K (a.put o.dst v) W → K' ((addD a ds).put o.dst v) W := fun v W h => by rw [addD_put]; exact hn _ _ h
  refine ⟨fun _ _ => trivial, ?_⟩
  have h2 := h.2
  rw [addD_eval]
  rw [Oper.semAt_eq _ _ _ hd] at h2 ⊢
  revert h2
  generalize (execOp a.eval o).run P w = res
  intro h2
  cases res with
  | ok nx w' => cases nx with
    | value v => exact go _ _ h2
    | skip => exact go _ _ h2
    | defer d =>
      show K' (({ addD a ds with defers := d :: (addD a ds).defers } : Act).put o.dst undef) w'
      rw [show ({ addD a ds with defers := d :: (addD a ds).defers } : Act) = addD { a with defers := d :: a.defers } ds from rfl, addD_put]
      exact hn _ _ h2
    | enter f args => exact ⟨h2.1, h2.2.mono fun e w hh => by cases e with
        | returned v => exact go _ _ hh
        | panicked c => exact ⟨a, rfl, hh⟩
        | outgrown => exact absurd hh hQ⟩
    | row row args => exact ⟨h2.1, h2.2.mono fun v w hh => go _ _ hh⟩
    | round l' f tmps asg bd => exact ⟨h2.1, h2.2.mono fun e w hh => by cases e with
        | returned v => exact go _ _ hh
        | panicked c => exact ⟨a, rfl, hh⟩
        | outgrown => exact absurd hh hQ⟩
    | recover => exact h2.elim
    | spawn => exact h2.elim
    | comm => exact h2.elim
    | numGoroutine => exact h2.elim
    | collect => exact h2.elim
    | watch => exact h2.elim
    | newcoro => exact h2.elim
    | coroswitch => exact h2.elim
    | sleep => exact h2.elim
    | timer => exact h2.elim
    | alone => exact h2.elim
    | callThen => exact h2.elim
    | stack => exact h2.elim
  | halt s w' => cases s with
    | panic v => exact ⟨a, rfl, h2⟩
    | blocked => exact h2.elim
    | waiting => exact h2.elim
    | exit c => exact h2.elim
    | fatal m => exact h2.elim
    | throw m => exact h2.elim
    | goexit => exact h2.elim
    | stuck m => exact h2.elim
    | unsupported m => exact h2.elim
theorem list_add (ds : List Deferred) (hQ : ¬ LetsOut Q) : ∀ (l : List Oper) (a : Act) (w : World), noDef l = true → wpListIn (FW r) n P ops Q l a w → wpListIn (FW r) n P ops (withA ds Q) l (addD a ds) w
  | [], a, _, _, h => ⟨a, rfl, h⟩
  | o :: l, a, w, hd, h => by
    have hd' : noDef l = true := by
      have h := hd
      simp only [noDef, List.all_cons, Bool.and_eq_true] at h
      exact h.2
    unfold wpListIn at h
    unfold wpListIn
    split
    · rename_i hw
      rw [if_pos (show Region.wanted o (yielded ops a.tmps) = true from hw)] at h
      exact opAdd ds (noDef_ne hd (List.mem_cons_self ..)) hQ (fun a w h => list_add ds hQ l a w hd' h) h
    · rename_i hw
      rw [if_neg (show ¬ Region.wanted o (yielded ops a.tmps) = true from hw)] at h
      refine ⟨fun _ _ => trivial, ?_⟩
      rw [addD_put]
      exact list_add ds hQ l _ _ hd' h.2
theorem any_add (ds : List Deferred) (hQ : ¬ LetsOut Q) (hd : noDef ops.toList = true) : ∀ (m : Nat) (listed : Array Bool) (a : Act) (w : World), wpAnyIn (FW r) n P .any ops Q m listed a w → wpAnyIn (FW r) n P .any ops (withA ds Q) m listed (addD a ds) w
  | 0, _, a, _, h => ⟨h.1, a, rfl, h.2⟩
  | m + 1, listed, a, w, h => by
    refine ⟨fun hr => ⟨a, rfl, h.1 hr⟩, fun i hi => ?_⟩
    have h2 := h.2 i hi
    unfold wpOpIn at h2 ⊢
    split
    · rename_i ho; rw [ho] at h2; exact any_add ds hQ hd m _ _ _ h2
    · rename_i o ho
      rw [ho] at h2
      simp only at h2
      have hmem : o ∈ ops.toList := by
        obtain ⟨hlt, he⟩ := Array.getElem?_eq_some_iff.1 ho
        rw [← he]; exact Array.mem_toList_iff.2 (Array.getElem_mem hlt)
      split
      · rename_i hw
        rw [if_pos (show Region.wanted o (yielded ops a.tmps) = true from hw)] at h2
        exact opAdd ds (noDef_ne hd hmem) hQ (fun a w h => any_add ds hQ hd m _ a w h) h2
      · rename_i hw
        rw [if_neg (show ¬ Region.wanted o (yielded ops a.tmps) = true from hw)] at h2
        refine ⟨fun _ _ => trivial, ?_⟩
        rw [addD_put]
        exact any_add ds hQ hd m _ _ _ h2.2
end
abbrev atD (ds : List Deferred) (Q : Exit → Act → World → Prop) : Exit → Act → World → Prop := fun e a w => Q e (addD a ds) w
theorem atD_no {ds : List Deferred} {Q : Exit → Act → World → Prop} (h : ¬ LetsOut Q) : ¬ LetsOut (atD ds Q) := fun ⟨_, _, k⟩ => h ⟨_, _, k⟩
theorem withA_at {ds : List Deferred} {Q : Exit → Act → World → Prop} : ∀ e a w, withA ds (atD ds Q) e a w → Q e a w := fun _ _ _ ⟨_, e, h⟩ => by rw [e]; exact h
section
variable {P : Program} {Γ : FuncId → Option Spec}
theorem codeD (hm : Fit P) (hΓ : GamOk P Γ) (r : Option Nat) (m : Nat) (ds : List Deferred) : ∀ n,
    (∀ f c F h K, (evC P Γ (lam []) n f c F h).holds K → calmC c = true → ∀ w0 G E w a Q, ¬ LetsOut Q → Inv P w0 G E h w → RelT E F a → Post P w0 G E h w K (atD ds Q) → c.wpIn (FW r) m P Q (addD a ds) w) ∧
    ∀ f b F h K, (evC P Γ (lam []) n f (.loop b) F h).holds K → calmC b = true → ∀ w0 G E w a Q, ¬ LetsOut Q → Inv P w0 G E h w → RelT E F a → Post P w0 G E h w K (atD ds Q) → Code.roundsIn (FW r) m P b Q n (addD a ds) w
  | 0 => ⟨fun f c F h K H => by unfold evC at H; exact H.elim, fun f b F h K H => by unfold evC at H; exact H.elim⟩
  | n + 1 => by
    obtain ⟨ihc, ihl⟩ := codeD hm hΓ r m ds n
    have hcall := callE_ok hm.2 (codeOk hm hΓ (lam_ok (l := []) trivial) n).1 hΓ (lam_ok (l := []) trivial)
    have then_ : ∀ {Q : Exit → Act → World → Prop} {K : Act → World → Prop}, ¬ LetsOut Q → ¬ LetsOut (Exit.then K Q) := fun hQ h => hQ h
    have loop : ∀ f b F h K, (evC P Γ (lam []) (n + 1) f (.loop b) F h).holds K → calmC b = true → ∀ w0 G E w a Q, ¬ LetsOut Q → Inv P w0 G E h w → RelT E F a → Post P w0 G E h w K (atD ds Q) → Code.roundsIn (FW r) m P b Q (n + 1) (addD a ds) w := by
      intro f b F h K H hc w0 G E w a Q hQ I hT hp
      unfold evC at H
      simp only at H
      rw [RT.holds_bind] at H
      rw [roundsIn_succ]
      refine ihc f b F h _ H hc w0 G E w a _ (then_ hQ) I hT ?_
      intro ex F' h' E' a' w' hk hs hT'
      cases ex with
      | normal => exact ihl f b F' h' K hk hc w0 G E' w' a' Q hQ hs.inv hT' (hp.step hs)
      | exit id => exact hp _ _ _ _ _ _ hk hs hT'
      | ret => exact hp _ _ _ _ _ _ hk hs hT'
    refine ⟨fun f c F h K H hc w0 G E w a Q hQ I hT hp => ?_, loop⟩
    have only_ : ¬ LetsOut (fun e a w => e = Exit.normal ∧ atD ds Q .normal a w) := fun ⟨_, _, h, _⟩ => by cases h
    have back : ∀ e a w, withA ds (fun e a w => e = Exit.normal ∧ atD ds Q .normal a w) e a w → Q e a w := fun e a w ⟨a0, h1, h2, h3⟩ => by subst h1; subst h2; exact h3
    cases c with
    | skip => unfold evC at H; exact wpIn_skip (hp _ _ _ _ _ _ H (Stepd.refl I) hT)
    | ret => unfold evC at H; exact wpIn_ret (hp _ _ _ _ _ _ H (Stepd.refl I) hT)
    | exit id => unfold evC at H; exact wpIn_exit (hp _ _ _ _ _ _ H (Stepd.refl I) hT)
    | region id ops draw =>
      cases draw with
      | false =>
        unfold evC at H
        simp only at H
        rw [RT.holds_bind] at H
        exact Go.wpIn_mono (wpIn_region_list (list_add ds only_ _ a w hc (listIn only_ _ _ _ hc (evList_ok hcall _ H I hT fun F' h' E' a' w' hk hs hT' => ⟨rfl, hp _ _ _ _ _ _ hk hs hT'⟩)))) back
      | true =>
        unfold evC at H
        simp only at H
        have hd := I.drew (w.drawn + 1)
        cases hqr : asRow P (lam []) f id ops
        case true =>
          rw [hqr] at H
          simp only [cond_true] at H
          rw [RT.holds_bind] at H
          have hq : quietR P ops = true := by
            unfold asRow at hqr
            split at hqr
            · cases hqr
            · exact hqr
          exact Go.wpIn_mono (wpIn_region_any hm.1 (any_add ds only_ hc _ _ _ _ (anyIn only_ hc _ _ _ _ (evReg_ok hcall hq H hd.inv hT fun F' h' E' a' w' hk hs hT' => ⟨rfl, hp _ _ _ _ _ _ hk (hd.trans hs) hT'⟩)))) back
        rw [hqr] at H
        simp only [cond_false] at H
        cases hla : asLate P (lam []) f id ops
        case true =>
          rw [hla] at H
          simp only [cond_true] at H
          rw [RT.holds_bind] at H
          exact Go.wpIn_mono (wpIn_region_any hm.1 (any_add ds only_ hc _ _ _ _ (anyIn only_ hc _ _ _ _ (wpL_any _ _ [] _ _ (evLateR_ok hcall (asLate_ok hla) (fun _ _ _ _ _ hq => by cases hq.1) H hd.inv hT fun F' h' E' a' w' hk hs hT' => ⟨rfl, hp _ _ _ _ _ _ hk (hd.trans hs) hT'⟩))))) back
        rw [hla] at H
        simp only [cond_false] at H
        cases hns : Region.noSelect ops
        · rw [hns] at H; exact H.elim
        rw [hns] at H
        simp only [cond_true] at H
        rw [RT.holds_bind] at H
        refine Go.wpIn_mono (wpIn_region_any hm.1 (any_add ds only_ hc _ _ _ _ (anyIn only_ hc _ _ _ _ (wpL_any _ _ [] _ _ (evDrawn_ok erOf_ok hcall hns (fun _ _ _ _ _ hq => by cases hq.1) _ H hd.inv hT .nil ?_))))) back
        exact fun F' h' E' a' w' hk hs hT' => ⟨rfl, hp _ _ _ _ _ _ hk (hd.trans hs) hT'⟩
    | seq x y =>
      unfold evC at H
      simp only at H
      rw [RT.holds_bind] at H
      simp only [calmC, Bool.and_eq_true] at hc
      refine wpIn_seq (ihc f x F h _ H hc.1 w0 G E w a _ (then_ hQ) I hT ?_)
      intro ex F' h' E' a' w' hk hs hT'
      cases ex with
      | normal => exact ihc f y F' h' K hk hc.2 w0 G E' w' a' Q hQ hs.inv hT' (hp.step hs)
      | exit id => exact hp _ _ _ _ _ _ hk hs hT'
      | ret => exact hp _ _ _ _ _ _ hk hs hT'
    | cond c x y =>
      unfold evC at H
      simp only at H
      simp only [calmC, Bool.and_eq_true] at hc
      split at H
      · rename_i t
        split at H
        · rename_i kn b hl
          have hv := hT.tm t
          rw [hl] at hv
          have hev : (addD a ds).eval (.tmp t) = .bool b := hv.1
          have hset := setA_ok hT hl
          rcases brk_holds H with ⟨rfl, H2⟩ | ⟨rfl, H2⟩
          · exact wpIn_cond_true hev (ihc f x _ h K H2 hc.1 w0 G E w a Q hQ I hset hp)
          · exact wpIn_cond_false hev (ihc f y _ h K H2 hc.2 w0 G E w a Q hQ I hset hp)
        · exact H.elim
      · exact wpIn_cond_true rfl (ihc f x F h K H hc.1 w0 G E w a Q hQ I hT hp)
      · exact wpIn_cond_false rfl (ihc f y F h K H hc.2 w0 G E w a Q hQ I hT hp)
      · exact H.elim
    | block id b =>
      unfold evC at H
      simp only at H
      split at H
      · rename_i sp hsp
        cases hsp
      · rw [RT.holds_bind] at H
        refine wpIn_block (ihc f b F h _ H hc w0 G E w a _ (fun h => hQ h) I hT ?_)
        intro ex F' h' E' a' w' hk hs hT'
        cases ex with
        | normal => exact hp _ _ _ _ _ _ hk hs hT'
        | ret => exact hp _ _ _ _ _ _ hk hs hT'
        | exit j =>
          simp only at hk
          show Exit.inBlock id Q (.exit j) (addD a' ds) w'
          simp only [Exit.inBlock]
          cases hb : Nat.beq j id
          · rw [hb] at hk
            rw [if_neg (fun e => by rw [e] at hb; simp at hb)]
            exact hp _ _ _ _ _ _ hk hs hT'
          · rw [hb] at hk
            rw [if_pos (Nat.eq_of_beq_eq_true hb)]
            exact hp _ _ _ _ _ _ hk hs hT'
    | loop b => exact wpIn_loop_rounds (n + 1) (loop f b F h K H hc w0 G E w a Q hQ I hT hp)
    | rangeFunc _ _ _ _ => unfold evC at H; exact H.elim
    | scope _ => cases hc
    | label _ => unfold evC at H; exact wpIn_label (hp _ _ _ _ _ _ H (Stepd.refl I) hT)
    | goto _ => unfold evC at H; exact H.elim
    | refuse _ => unfold evC at H; exact H.elim
variable {E : Env} {F : Tm} {h : Hp} {w w0 : World} {G : Nat → Prop} {a : Act}
/-- a piece of code, far blocks kept, other calls put off -/
theorem segD {gs : List (FuncId × Spec)} (hm : Fit P) (hΓ : GamL P gs) (r : Option Nat) (m n f : Nat) (ds : List Deferred) {c : Code} {K : Out → Prop} {Q : Exit → Act → World → Prop} (H : (evC P (gam gs) (lam []) n f c F h).holds K) (hc : calmC c = true) (hQ : ¬ LetsOut Q) (I : Inv P w0 G E h w) (hT : RelT E F a)
    (hp : ∀ ex F' h' E' a' w', K (ex, F', h') → Stepd P w0 G E h w E' h' w' → RelT E' F' a' → FarK w w' → Q ex.to (addD a' ds) w') : c.wpIn (FW r) m P Q (addD a ds) w :=
  (codeD hm (gam_ok hΓ) r m ds n).1 f c F h K H hc w E.mine E w a Q hQ I.top hT fun ex F' h' E' a' w' hk S hT' => hp ex F' h' E' a' w' hk (S.under I) hT' (far_kept I S)
end
end
end Go.Proofs.YtomblhnchdokmaaGreatDoor

namespace Go.Proofs.YtomblhnchdokmaaGreatDoor
set_option linter.unusedSimpArgs false
set_option linter.unusedVariables false
open Go.RowKit
set_option maxRecDepth 10000
noncomputable section

def hasRF : Code → Bool
  | .rangeFunc _ _ _ _ => true
  | .seq a b => hasRF a || hasRF b
  | .cond _ a b => hasRF a || hasRF b
  | .block _ b => hasRF b
  | .loop b => hasRF b
  | .scope b => hasRF b
  | _ => false
abbrev OutR := Ex × Tm × Hp × Bool
def isNilB {α : Type} : List α → Bool
  | [] => true
  | _ => false
theorem isNil_eq {α : Type} {l : List α} (h : isNilB l = true) : l = [] := by cases l <;> first | rfl | cases h
section
variable (P : Program) (gs : List (FuncId × Spec)) (C : EvC) (LS : EvL)
/-- the iterator's call: what the loop is left by -/
def evItg (n : Nat) (lp : Lp) (g : FuncId) (cap : List AV) (h : Hp) : RT (Ex × Hp) := match plainF P g with
  | none => .bad 199
  | some (gn, gb) => bif Nat.ble (cap.length + 1) gn.ntmps && (calmC gb && isNilB gn.results.toList) then
      (evYg P gs C LS lp n g gb (enterA gn (.fn (.method "") [] [] :: cap)) h .normal).bind fun r => match r.1 with
        | .exit _ => .bad 196
        | _ => bif noYO r.2.2.1.ob && isNilB r.2.1.df then .ok (r.2.2.2, r.2.2.1) else .bad 197
      else .bad 198
/-- code with a range over a function in it; told too: whether one was -/
def evRg (n : Nat) : Nat → FuncId → Code → Tm → Hp → Bool → RT OutR
  | 0, _, _, _, _, _ => .bad 600
  | k + 1, f, c, F, h, mk => bif hasRF c then (match c with
      | .seq a b => (evRg n k f a F h mk).bind fun r => match r.1 with | .normal => evRg n k f b r.2.1 r.2.2.1 r.2.2.2 | _ => .ok r
      | .block id b => (evRg n k f b F h mk).bind fun r => match r.1 with
        | .exit j => bif Nat.beq j id then .ok (.normal, r.2) else .ok r
        | _ => .ok r
      | .cond (.tmp t) a b => match look t F.tm with
        | .sc kn (.bool v) => brk kn v (evRg n k f a (setA F t true) h mk) (evRg n k f b (setA F t false) h mk)
        | _ => .bad 610
      | .rangeFunc (.tmp t) ps asn bd => bif mk then .bad 601 else bif noYO h.ob && (noYT F && isNilB F.df) then (match look t F.tm with
          | .fn (.func g) [] cap => (evItg P gs C LS n ⟨F, f, ps.toList, asn, bd⟩ g cap h).bind fun r => .ok (r.1, F, r.2, true)
          | _ => .bad 602) else .bad 603
      | _ => .bad 604)
    else bif calmC c then (C n f c F h).bind fun r => .ok (r.1, r.2.1, r.2.2, mk) else .bad 605
def rangeG (n : Nat) (f : FuncId) : Spec := fun args h => match plainF P f with
  | none => .bad 606
  | some (fn, b) => bif Nat.ble args.length fn.ntmps then (evRg P gs C LS n n f b (enterA fn args) h false).bind fun r => match r.1 with
      | .exit _ => .bad 607
      | _ => bif isNilB r.2.1.df then resultA P fn r.2.1 r.2.2.1 else .bad 608 else .bad 609
abbrev evIt := evItg P gs (evC P (gam gs) (lam [])) (evList P)
abbrev evR := evRg P gs (evC P (gam gs) (lam [])) (evList P)
abbrev rangeF := rangeG P gs (evC P (gam gs) (lam [])) (evList P)
/-- the same, values laid out -/
def rangeV (m : Bool) := rangeG P gs (fvC P (gam gs) (lam []) m) (fun call ops l F h => fvList P m call ops l F h)
theorem rangeV_eq (m : Bool) (n : Nat) (f : FuncId) : rangeV P gs m n f = rangeF P gs n f := by
  have h1 : fvC P (gam gs) (lam []) m = evC P (gam gs) (lam []) := funext fun n => fvC_eq P (gam gs) (lam []) m n
  have h2 : (fun call ops l F h => fvList P m call ops l F h : EvL) = evList P := by
    funext call ops l F h
    exact fvList_eq P m call ops l F h
  unfold rangeV
  rw [h1, h2]
end
section
variable {P : Program} {gs : List (FuncId × Spec)} {w0 : World} {G : Nat → Prop}
theorem evIt_ok (hm : Fit P) (hΓ : GamL P gs) (m n : Nat) {lp : Lp} {g : FuncId} {cap : List AV} {h : Hp} {K : Ex × Hp → Prop} {L : Nat} {R : Loop} {E : Env} {w : World} {cap' : List Value} (H : (evIt P gs n lp g cap h).holds K) (hL0 : w0.heap.size ≤ L) (hy : E.yl = L) (hlp : LpOk lp R E) (I : Inv P w0 G E h w) (hc : RelL E cap cap') (hl : w.heap[L]? = some (.loop R)) :
    CallsIn (FW none) m P g ((.func (.yield L) #[] #[] :: cap').toArray) w fun e W => ∃ v ex h2 E2, e = .returned v ∧ K (ex, h2) ∧ noYO h2.ob = true ∧ Stepd P w0 G E h w E2 h2 W ∧ Lat W L R ex ∧ FarX L w W := by
  unfold evIt evItg at H
  split at H
  · exact H.elim
  rename_i gn gb hp
  cases hcd : (Nat.ble (cap.length + 1) gn.ntmps && (calmC gb && isNilB gn.results.toList))
  · rw [hcd] at H; exact H.elim
  rw [hcd] at H
  simp only [cond_true] at H
  simp only [Bool.and_eq_true] at hcd
  obtain ⟨c1, c2, c3⟩ := hcd
  rw [RT.holds_bind] at H
  obtain ⟨hf, hb⟩ := plainF_ok hp
  have hres : gn.results = #[] := by
    have := isNil_eq c3
    cases hr : gn.results with | mk l => rw [hr] at this; simp at this; rw [this]
  have hr : RelL E (.fn (.method "") [] [] :: cap) (.func (.yield L) #[] #[] :: cap') := ⟨_, _, rfl, ⟨#[], #[], by simp only [ylF, hy], rfl, rfl⟩, hc⟩
  refine callsIn_of_wp hf hb trivial ?_
  refine (evY_ok hm hΓ m hL0 n).1 _ _ _ _ _ _ H c2 E w _ _ ?_ hy hlp I (enterA_ok I.laid hr (Nat.le_of_ble_eq_true c1)) (show Lat w L R .normal from hl) ?_
  · rintro ⟨_, _, h⟩
    obtain ⟨_, _, _, _, he, _⟩ := h
    cases he
  · intro ex F' h' pe' E' a' w' hk S hT hlat hf'
    have fin : (bif noYO h'.ob && isNilB F'.df then RT.ok (pe', h') else .bad 197 : RT (Ex × Hp)).holds K → a'.defers = [] ∧ ∃ v, (results gn a'.tmps).run P w' = .ok v w' ∧ ∃ v' ex h2 E2, Ending.returned v = .returned v' ∧ K (ex, h2) ∧ noYO h2.ob = true ∧ Stepd P w0 G E h w E2 h2 w' ∧ Lat w' L R ex ∧ FarX L w w' := fun hk => by
      cases hc2 : (noYO h'.ob && isNilB F'.df)
      · rw [hc2] at hk; exact hk.elim
      rw [hc2] at hk
      simp only [cond_true] at hk
      simp only [Bool.and_eq_true] at hc2
      exact ⟨df_nil hT (isNil_eq hc2.2), _, results_none hres _ _ _, _, pe', h', E', rfl, hk, hc2.1, S, hlat, hf'⟩
    cases ex with
    | exit id => exact hk.elim
    | normal => exact fin hk
    | ret => exact fin hk
def MkOk (w0 w : World) (ds : List Deferred) (mk : Bool) : Prop := (mk = false → ds = []) ∧ (mk = true → ∃ D, ds = [markD D] ∧ w0.heap.size ≤ D ∧ w.heap[D]? = some (.deferred (some [])))
theorem MkOk.far {w0 w w' : World} {ds : List Deferred} {mk : Bool} (h : MkOk w0 w ds mk) (k : FarK w w') : MkOk w0 w' ds mk :=
  ⟨h.1, fun e => by obtain ⟨D, h1, h2, h3⟩ := h.2 e; exact ⟨D, h1, h2, k _ _ h3 rfl⟩⟩
def PostR (P : Program) (w0 : World) (G : Nat → Prop) (E : Env) (h : Hp) (w : World) (K : OutR → Prop) (Q : Exit → Act → World → Prop) : Prop :=
  ∀ ex F' h' mk' E' a' w' ds', K (ex, F', h', mk') → Stepd P w0 G E h w E' h' w' → RelT E' F' a' → MkOk w0 w' ds' mk' → Q ex.to (addD a' ds') w'
theorem PostR.step {w w1 : World} {E E1 : Env} {h h1 : Hp} {K : OutR → Prop} {Q : Exit → Act → World → Prop} (hp : PostR P w0 G E h w K Q) (hs : Stepd P w0 G E h w E1 h1 w1) : PostR P w0 G E1 h1 w1 K Q :=
  fun ex F' h' mk' E' a' w' ds' hk hs' hT hmk => hp ex F' h' mk' E' a' w' ds' hk (hs.trans hs') hT hmk
theorem evR_ok (hm : Fit P) (hΓ : GamL P gs) (m n : Nat) : ∀ k f c F h mk K, (evR P gs n k f c F h mk).holds K → ∀ E w a ds Q, ¬ LetsOut Q → MkOk w0 w ds mk → Inv P w0 G E h w → RelT E F a → PostR P w0 G E h w K Q → c.wpIn (FW none) m P Q (addD a ds) w
  | 0, f, c, F, h, mk, K, H, E, w, a, ds, Q, hQ, hmk, I, hT, hp => by unfold evR evRg at H; exact H.elim
  | k + 1, f, c, F, h, mk, K, H, E, w, a, ds, Q, hQ, hmk, I, hT, hp => by
    have ih := evR_ok hm hΓ m n k
    unfold evR evRg at H
    cases hrf : hasRF c
    · rw [hrf] at H
      simp only [cond_false] at H
      cases hcm : calmC c
      · rw [hcm] at H; exact H.elim
      rw [hcm] at H
      simp only [cond_true] at H
      rw [RT.holds_bind] at H
      exact segD hm hΓ none m n f ds H hcm hQ I hT fun ex F' h' E' a' w' hk S hT' hf => hp _ _ _ _ _ _ _ _ hk S hT' (hmk.far hf)
    rw [hrf] at H
    simp only [cond_true] at H
    cases c with
    | seq x y =>
      simp only at H
      rw [RT.holds_bind] at H
      refine wpIn_seq (ih f x F h mk _ H E w a ds _ (fun h => hQ h) hmk I hT ?_)
      intro ex F' h' mk' E' a' w' ds' hk hs hT' hmk'
      cases ex with
      | normal => exact ih f y F' h' mk' K hk E' w' a' ds' Q hQ hmk' hs.inv hT' (hp.step hs)
      | exit id => exact hp _ _ _ _ _ _ _ _ hk hs hT' hmk'
      | ret => exact hp _ _ _ _ _ _ _ _ hk hs hT' hmk'
    | block id b =>
      simp only at H
      rw [RT.holds_bind] at H
      refine wpIn_block (ih f b F h mk _ H E w a ds _ (fun h => hQ h) hmk I hT ?_)
      intro ex F' h' mk' E' a' w' ds' hk hs hT' hmk'
      cases ex with
      | normal => exact hp _ _ _ _ _ _ _ _ hk hs hT' hmk'
      | ret => exact hp _ _ _ _ _ _ _ _ hk hs hT' hmk'
      | exit j =>
        simp only at hk
        show Exit.inBlock id Q (.exit j) (addD a' ds') w'
        simp only [Exit.inBlock]
        cases hb : Nat.beq j id
        · rw [hb] at hk
          rw [if_neg (fun e => by rw [e] at hb; simp at hb)]
          exact hp _ _ _ _ _ _ _ _ hk hs hT' hmk'
        · rw [hb] at hk
          rw [if_pos (Nat.eq_of_beq_eq_true hb)]
          exact hp _ _ _ _ _ _ _ _ hk hs hT' hmk'
    | cond c x y =>
      cases c with
      | tmp t =>
        simp only at H
        split at H
        · rename_i kn b hl
          have hv := hT.tm t
          rw [hl] at hv
          have hev : (addD a ds).eval (.tmp t) = .bool b := hv.1
          have hset := setA_ok hT hl
          rcases brk_holds H with ⟨rfl, H2⟩ | ⟨rfl, H2⟩
          · exact wpIn_cond_true hev (ih f x _ h mk K H2 E w a ds Q hQ hmk I hset hp)
          · exact wpIn_cond_false hev (ih f y _ h mk K H2 E w a ds Q hQ hmk I hset hp)
        · exact H.elim
      | _ => exact H.elim
    | rangeFunc g ps asn bd =>
      cases g with
      | tmp t =>
        simp only at H
        cases mk with
        | true => exact H.elim
        | false =>
        simp only [cond_false] at H
        obtain rfl := hmk.1 rfl
        rw [addD_nil]
        cases hc : (noYO h.ob && (noYT F && isNilB F.df))
        · rw [hc] at H; exact H.elim
        rw [hc] at H
        simp only [cond_true] at H
        simp only [Bool.and_eq_true] at hc
        obtain ⟨c1, c2, c3⟩ := hc
        split at H
        · rename_i gf cap hl
          rw [RT.holds_bind] at H
          have had := df_nil hT (isNil_eq c3)
          have hcapY : noYL cap = true := by
            have h1 : noYW F.tm = true := by
              have := c2
              simp only [noYT, Bool.and_eq_true] at this
              exact this.1
            have h2 := noYW_look (t := t) h1
            rw [hl] at h2
            simpa only [noY, noYL, Bool.true_and] using h2
          have hg : (plainF P gf).isSome = true := by
            unfold evItg at H
            split at H
            · exact H.elim
            · rename_i hpp; rw [hpp]; rfl
          have hadd : ∀ D, ({ a with defers := markD D :: a.defers } : Act) = addD a [markD D] := fun D => by unfold addD; rw [had]; rfl
          refine rangeE (Kk := fun pe h2 => ∃ ex : Ex, pe = ex.cd ∧ K (ex, F, h2, true)) hm hg hl I hT ?_ ?_ ?_
          · intro fn L D w1 E1 cap' S1 hf hL0 hD0 hDL hLr hDr hcap hT1
            have hlp : LpOk ⟨F, f, ps.toList, asn, bd⟩ (recL fn a.tmps ps asn bd D .ready none) (E1.at L) := ⟨rfl, rfl, rfl, rfl, rfl, by
              have := hT1.at c2 L
              rw [← actD had] at this
              exact this⟩
            refine (evIt_ok hm hΓ (m - 1) n (E := E1.at L) H hL0 rfl hlp (S1.inv.at c1 L) (rel_atL L _ _ hcapY hcap) hLr).mono ?_
            rintro e W ⟨v, ex, h2, E2, rfl, hK, hY, S, hlat, hfar⟩
            have hD2 := hfar D _ hDL hDr rfl
            cases ex with
            | normal => exact ⟨v, _, .ready, _, h2, rfl, by decide, S.at hY, hlat, hD2, ⟨.normal, rfl, hK⟩, .normal, rfl⟩
            | ret => exact ⟨v, _, .done, _, h2, rfl, by decide, S.at hY, hlat, hD2, ⟨.ret, rfl, hK⟩, .ret, rfl⟩
            | exit id => exact ⟨v, _, .done, _, h2, rfl, by decide, S.at hY, hlat, hD2, ⟨.exit id, rfl, hK⟩, .exit id, rfl⟩
          · rintro D E2 h2 W ⟨ex, hpe, hK⟩ S hD0 hD
            rw [hadd]
            cases ex with
            | normal => exact hp _ _ _ _ _ _ _ _ hK S (hT.mono S.ext) ⟨fun e => absurd e (by decide), fun _ => ⟨D, rfl, hD0, hD⟩⟩
            | ret => cases hpe
            | exit id => cases hpe
          · rintro D E2 h2 W ex hne ⟨ex', hpe, hK⟩ S hD0 hD
            rw [hadd]
            obtain rfl : ex = ex' := by
              cases ex <;> cases ex' <;> first | rfl | (cases hpe; done) | (cases hpe; rfl)
            exact hp _ _ _ _ _ _ _ _ hK S (hT.mono S.ext) ⟨fun e => absurd e (by decide), fun _ => ⟨D, rfl, hD0, hD⟩⟩
        · exact H.elim
      | _ => exact H.elim
    | _ => exact H.elim
/-- such a function is told right -/
theorem rangeF_ok (hm : Fit P) (hΓ : GamL P gs) (n : Nat) (f : FuncId) : SoundF P f (rangeF P gs n f) := by
  intro args h K H w0 G E w vals I hr
  unfold rangeF rangeG at H
  split at H
  · exact H.elim
  rename_i fn b hp
  cases hle : Nat.ble args.length fn.ntmps
  · rw [hle] at H; exact H.elim
  rw [hle] at H
  simp only [cond_true] at H
  rw [RT.holds_bind] at H
  obtain ⟨hf, hb⟩ := plainF_ok hp
  refine ofCallsFW (r := none) (n := 0) (callsIn_of_wp_marks hf hb trivial ?_)
  have key := evR_ok (w0 := w0) (G := G) hm hΓ 0 n n f b _ h false _ H E w { tmps := vals.toArray ++ Array.replicate (fn.ntmps - vals.toArray.size) undef, defers := [] } [] (bodyPostM (FW none) 0 P fn fun e w' => ∃ r h' v E', K (r, h') ∧ e = .returned v ∧ Stepd P w0 G E h w E' h' w' ∧ Rel E' r v) ?_ ⟨fun _ => rfl, fun h => by cases h⟩ I (enterA_ok I.laid hr (Nat.le_of_ble_eq_true hle)) ?_
  · rw [addD_nil] at key; exact key
  · rintro ⟨_, _, h⟩
    obtain ⟨_, _, _, _, _, he, _⟩ := h
    cases he
  · intro ex F' h' mk' E' a' w' ds' hk S hT hmk
    have fin : (bif isNilB F'.df then resultA P fn F' h' else .bad 608 : RT (AV × Hp)).holds K → LeavesInM (FW none) 0 P fn a'.tmps (fun e w' => ∃ r h' v E', K (r, h') ∧ e = .returned v ∧ Stepd P w0 G E h w E' h' w' ∧ Rel E' r v) (a'.defers ++ ds') .returning w' := fun hk2 => by
      cases hc : isNilB F'.df
      · rw [hc] at hk2; exact hk2.elim
      rw [hc] at hk2
      simp only [cond_true] at hk2
      rw [df_nil hT (isNil_eq hc), List.nil_append]
      cases mk' with
      | false =>
        obtain rfl := hmk.1 rfl
        obtain ⟨r, v, k1, k2, k3⟩ := resultA_ok hk2 S.inv hT
        exact ⟨v, k3, r, h', v, E', k1, rfl, S, k2⟩
      | true =>
        obtain ⟨D, rfl, hD0, hD⟩ := hmk.2 rfl
        have St := S.inv.turn hD rfl hD0 (.deferred none)
        obtain ⟨r, v, k1, k2, k3⟩ := resultA_ok hk2 St.inv hT
        exact leaves_mark hD ⟨v, k3, r, h', v, E', k1, rfl, S.trans St, k2⟩
    cases ex with
    | normal => exact fin hk
    | ret => exact fin hk
    | exit id => exact hk.elim
end
end
end Go.Proofs.YtomblhnchdokmaaGreatDoor

namespace Go.Proofs.YtomblhnchdokmaaGreatDoor
set_option linter.unusedSimpArgs false
set_option linter.unusedVariables false
open Go.RowKit
set_option maxRecDepth 10000
noncomputable section
def sOk (p : Nat → Bool) : Nat → Nat → Bool
  | 0, _ => true
  | n + 1, i => p i && sOk p n (i + 1)
def sBad (p : Nat → Bool) : Nat → Nat → Nat
  | 0, i => i
  | n + 1, i => if p i then sBad p n (i + 1) else i
theorem sOk_iff {p : Nat → Bool} : ∀ {n i : Nat}, sOk p n i = true ↔ ∀ j, i ≤ j → j < i + n → p j = true
  | 0, i => by simp [sOk]; omega
  | n + 1, i => by
    simp only [sOk, Bool.and_eq_true, sOk_iff (n := n) (i := i + 1)]
    exact ⟨fun ⟨h1, h2⟩ j hj hj2 => by
      by_cases e : j = i
      · rw [e]; exact h1
      · exact h2 j (by omega) (by omega), fun h => ⟨h i (by omega) (by omega), fun j h1 h2 => h j (by omega) (by omega)⟩⟩
theorem sOk_snoc {p : Nat → Bool} {n : Nat} (h : sOk p n 0 = true) (hp : p n = true) : sOk p (n + 1) 0 = true := by
  rw [sOk_iff] at h ⊢
  intro j _ hj
  by_cases e : j = n
  · rw [e]; exact hp
  · exact h j (by omega) (by omega)
theorem sOk_false {p : Nat → Bool} {n i j : Nat} (h1 : i ≤ j) (h2 : j < i + n) (hp : p j = false) : sOk p n i = false := by
  cases h : sOk p n i
  · rfl
  · rw [sOk_iff] at h
    have := h j h1 h2
    rw [hp] at this; cases this
theorem sOk_join {p : Nat → Bool} {n m : Nat} (h : sOk p n 0 = true) (h2 : sOk p m n = true) : sOk p (n + m) 0 = true := by
  rw [sOk_iff] at h h2 ⊢
  intro j _ hj
  by_cases e : j < n
  · exact h j (by omega) (by omega)
  · exact h2 j (by omega) (by omega)
theorem sBad_cons {p : Nat → Bool} {n i : Nat} (hp : p i = true) : sBad p (n + 1) i = sBad p n (i + 1) := by simp [sBad, hp]
theorem sBad_here {p : Nat → Bool} {n i : Nat} (hp : p i = false) : sBad p (n + 1) i = i := by simp [sBad, hp]
def srchT {α : Type} (n : α → Nat) (p : α → Nat → Bool) (okk : α → Bool) (mkF : α → Nat → Tm) (mkR : α → Nat → Tm) (mkH : α → Hp) (w : Ex) (x : α × Nat) : RT Out :=
  need false (okk x.1 && decide (x.2 ≤ n x.1)) 210 (.br (sOk (p x.1) (n x.1 - x.2) x.2) (.ok (.normal, mkF x.1 (n x.1), mkH x.1)) (.ok (w, mkR x.1 (sBad (p x.1) (n x.1 - x.2) x.2), mkH x.1)))
theorem srch_loop {P : Program} {gs : List (FuncId × Spec)} {ls : List (FuncId × Nat × BSpec)} {α : Type} (hm : Fit P) (hΓ : GamL P gs) (hΛ : LamL P ls) (f id n : Nat) (hl : isLoop id (bodyOf P f) = true) (L : Lw)
    {len : α → Nat} {p : α → Nat → Bool} {okk : α → Bool} {mkF mkR : α → Nat → Tm} {mkH : α → Hp} {w : Ex} {dec : Tm → Hp → Option (α × Nat)}
    (hw : w ≠ .normal) (hwi : w ≠ .exit id) (hdec : ∀ F h x, dec F h = some x → F = mkF x.1 x.2 ∧ h = mkH x.1)
    (hround : ∀ a i (K : Out → Prop), okk a = true → i ≤ len a → (i < len a → p a i = true → K (.normal, mkF a (i + 1), mkH a)) → (i < len a → p a i = false → K (w, mkR a i, mkH a)) → (i = len a → K (.exit id, mkF a (len a), mkH a)) →
      (roundT L (evC P (gam gs) (lam ls) n f (loopAt id (bodyOf P f)) (mkF a i) (mkH a))).holds K) :
    LamE P f id (loopS P L dec (srchT len p okk mkF mkR mkH w)) := by
  refine loop_in2 hm hΓ hΛ f id n hl L (mkF := fun x => mkF x.1 x.2) (mkH := fun x => mkH x.1) (fun x => len x.1 - x.2) hdec ?_
  rintro ⟨a, i⟩ K H
  obtain ⟨hc, H⟩ := need_holds H
  simp only [Bool.and_eq_true, decide_eq_true_eq] at hc
  obtain ⟨hok, hi⟩ := hc
  refine hround a i _ hok hi ?_ ?_ ?_
  · intro hlt hp
    refine ⟨(a, i + 1), ⟨rfl, rfl⟩, by show len a - (i + 1) < len a - i; omega, ?_⟩
    unfold srchT
    refine ⟨fun _ => ?_, fun hf => ?_⟩
    · have e : len a - i = (len a - (i + 1)) + 1 := by omega
      have e1 : sOk (p a) (len a - i) i = sOk (p a) (len a - (i + 1)) (i + 1) := by rw [e]; simp only [sOk, hp, Bool.true_and]
      have e2 : sBad (p a) (len a - i) i = sBad (p a) (len a - (i + 1)) (i + 1) := by rw [e, sBad_cons hp]
      dsimp only at H
      rw [e1, e2] at H
      exact H
    · simp only [hok, Bool.true_and, decide_eq_false_iff_not] at hf
      exact absurd (show i + 1 ≤ len a by omega) hf
  · intro hlt hp
    have h := H.2 (sOk_false (Nat.le_refl _) (show i < i + (len a - i) by omega) hp)
    dsimp only at h
    rw [show len a - i = (len a - i - 1) + 1 by omega, sBad_here hp] at h
    unfold Round
    cases w with
    | normal => exact absurd rfl hw
    | exit j =>
      show if j = id then _ else _
      rw [if_neg (fun e : j = id => hwi (by rw [e]))]
      exact h
    | ret => exact h
  · intro he
    have h := H.1 (by subst he; dsimp only; rw [Nat.sub_self]; rfl)
    unfold Round
    simp only [if_pos rfl]
    exact h
/-! Contracts that tell of a pointer that it is none of nothing. -/
def seA : AV → AV
  | .ptr _ _ => .ea []
  | x => strip x
def seT : AV → AV
  | .tup vs => .tup (vs.map seA)
  | x => seA x
theorem seA_rel {E E2 : Env} (hk : ∀ x v, Rel E x v → Rel E2 (strip x) v) : ∀ (x : AV) (v : Value), Rel E x v → Rel E2 (seA x) v := by
  intro x v H
  unfold seA
  split
  · obtain ⟨_, rfl⟩ := H
    exact ⟨[], _, _, rfl, by simp, rfl, fun i u hu => by simp at hu⟩
  · exact hk x v H
theorem seA_relL {E E2 : Env} (hk : ∀ x v, Rel E x v → Rel E2 (strip x) v) : ∀ (xs : List AV) (vs : List Value), RelL E xs vs → RelL E2 (xs.map seA) vs
  | [], _, H => H
  | x :: xs, _, ⟨v, vs', h1, h2, h3⟩ => ⟨v, vs', h1, seA_rel hk x v h2, seA_relL hk xs vs' h3⟩
theorem seT_rel {E E2 : Env} (hk : ∀ x v, Rel E x v → Rel E2 (strip x) v) : ∀ (x : AV) (v : Value), Rel E x v → Rel E2 (seT x) v := by
  intro x v H
  unfold seT
  split
  · obtain ⟨vs, h1, h2⟩ := H
    exact ⟨vs, h1, seA_relL hk _ _ h2⟩
  · exact seA_rel hk x v H
def treeE (sp : Spec) (args : List AV) : RT AV := (sp args hp0).bind fun x => .ok (seT x.1)
theorem pureE_in {P : Program} {gs : List (FuncId × Spec)} {ls : List (FuncId × Nat × BSpec)} (hm : Fit P) (hΓ : GamL P gs) (hΛ : LamL P ls) (f n : Nat) {F : List AV → RT AV} (hF : ∀ args K, okL args → (F args).holds K → (treeE (evF P (gam gs) (lam ls) n f) args).holds fun r => ∃ y, Le r y ∧ K y) : SoundF P f (pureS P f F) := by
  intro args h K H w0 G E w vals I hr
  unfold pureS at H
  rw [RT.holds_bind] at H
  have h1 := hF _ _ (ok_relL _ _ (args0_rel hr)) H
  unfold treeE at h1
  rw [RT.holds_bind] at h1
  have I2 := (I.ren (os := []) (ks := []) (g0 := 0) .nil .nil (by simp) 0).top
  have hr2 := ren_relL (os := []) (ks := []) (g0 := 0) I _ _ hr
  rw [ren_stripL] at hr2
  refine (evF_ok hm (gam_ok hΓ) (lam_ok hΛ) n f _ _ _ h1 w _ _ w vals I2 (nilAs_rel _ _ _ (dull_relL _ _ hr2))).mono ?_
  rintro e w' ⟨r, h', v, E', hK, rfl, S, hv⟩
  have S3 := Inv.bak (mk := 0) I .nil (by simp) .nil (by simp) (Nat.le_refl _) (Nat.zero_le _) S
  rw [hp_bak0] at S3
  have hv3 := seT_rel (fun x v hx => by
    have := bak_rel (h' := h') S.inv S.ext (mk := 0) .nil (by simp) (Nat.zero_le _) (Nat.le_refl _) (by simp) h.ng x v hx
    rwa [bak_strip] at this) r v hv
  obtain ⟨y, hy, hK⟩ := hK
  refine ⟨_, h, v, _, hK, rfl, S3, ?_⟩
  cases allKL args
  · exact hy _ _ hv3
  · exact know_rel _ _ (hy _ _ hv3)
end
end Go.Proofs.YtomblhnchdokmaaGreatDoor
