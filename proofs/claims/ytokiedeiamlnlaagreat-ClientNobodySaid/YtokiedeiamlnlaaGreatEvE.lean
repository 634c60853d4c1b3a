/- EvE: tables of contracts and of loops. No condition. -/
import Derived.Test.YtokiedeiamlnlaaGreatEvD
namespace Go.Proofs.YtokiedeiamlnlaaGreat
set_option linter.unusedSimpArgs false
set_option linter.unusedVariables false
open Go.RowKit
set_option maxRecDepth 10000
noncomputable section

/-- a table of contracts -/
def gam : List (FuncId × Spec) → FuncId → Option Spec
  | [], _ => none
  | (g, sp) :: r, f => bif Nat.beq g f then some sp else gam r f
def GamL (P : Program) : List (FuncId × Spec) → Prop
  | [] => True
  | (g, sp) :: r => SoundF P g sp ∧ GamL P r
theorem gam_ok {P : Program} : ∀ {l : List (FuncId × Spec)}, GamL P l → GamOk P (gam l)
  | [], _, g, sp, h => by cases h
  | (k, s) :: r, ⟨h1, h2⟩, g, sp, h => by
    simp only [gam] at h
    cases hb : Nat.beq k g
    · rw [hb] at h; exact gam_ok h2 g sp h
    · rw [hb] at h
      cases h
      obtain rfl := Nat.eq_of_beq_eq_true hb
      exact h1
/-- a table of loops -/
def lam : List (FuncId × Nat × BSpec) → FuncId → Nat → Option BSpec
  | [], _, _ => none
  | (g, i, sp) :: r, f, id => bif Nat.beq g f && Nat.beq i id then some sp else lam r f id
def LamE (P : Program) (f : FuncId) (id : Nat) (sp : BSpec) : Prop := ∀ fn b, plainF P f = some (fn, b) → ∀ c ∈ blocksOf id b, BOk P c sp
def LamL (P : Program) : List (FuncId × Nat × BSpec) → Prop
  | [] => True
  | (g, i, sp) :: r => LamE P g i sp ∧ LamL P r
theorem lam_ok {P : Program} : ∀ {l : List (FuncId × Nat × BSpec)}, LamL P l → LamAll P (lam l)
  | [], _, f, fn, b, _, id, sp, h => by cases h
  | (k, i, s) :: r, ⟨h1, h2⟩, f, fn, b, hp, id, sp, h => by
    simp only [lam] at h
    cases hb : Nat.beq k f && Nat.beq i id
    · rw [hb] at h; exact lam_ok h2 f fn b hp id sp h
    · rw [hb] at h
      cases h
      simp only [Bool.and_eq_true] at hb
      obtain rfl := Nat.eq_of_beq_eq_true hb.1
      obtain rfl := Nat.eq_of_beq_eq_true hb.2
      exact h1 fn b hp
def bodyOf (P : Program) (f : FuncId) : Code := match plainF P f with | some (_, b) => b | none => .skip
def loopAt (id : Nat) (c : Code) : Code := match blocksOf id c with | [.block _ (.loop b)] => b | _ => .skip
def isLoop (id : Nat) (c : Code) : Bool := match blocksOf id c with | [.block j (.loop _)] => Nat.beq j id | _ => false
theorem isLoop_ok {id : Nat} {c : Code} (h : isLoop id c = true) : blocksOf id c = [.block id (.loop (loopAt id c))] := by
  unfold isLoop at h
  unfold loopAt
  split at h
  · rename_i j b hb
    obtain rfl := Nat.eq_of_beq_eq_true h
    rw [hb]
  · cases h
theorem blocks_in {id i : Nat} {x : Code} : ∀ {c b : Code}, .block id b ∈ blocksOf id c → x ∈ blocksOf i b → x ∈ blocksOf i c
  | .seq p q, b, h, hx => by
    simp only [blocksOf, List.mem_append] at h ⊢
    exact h.imp (fun h => blocks_in h hx) (fun h => blocks_in h hx)
  | .cond _ p q, b, h, hx => by
    simp only [blocksOf, List.mem_append] at h ⊢
    exact h.imp (fun h => blocks_in h hx) (fun h => blocks_in h hx)
  | .loop p, b, h, hx => by simp only [blocksOf] at h ⊢; exact blocks_in h hx
  | .scope p, b, h, hx => by simp only [blocksOf] at h ⊢; exact blocks_in h hx
  | .block j p, b, h, hx => by
    simp only [blocksOf, List.mem_append] at h ⊢
    right
    rcases h with h | h
    · split at h
      · simp at h; obtain ⟨_, rfl⟩ := h; exact hx
      · simp at h
    · exact blocks_in h hx
  | .skip, _, h, _ | .region _ _ _, _, h, _ | .rangeFunc _ _ _ _, _, h, _ | .exit _, _, h, _ | .label _, _, h, _ | .goto _, _, h, _ | .ret, _, h, _ | .refuse _, _, h, _ => by simp [blocksOf] at h
theorem loop_in {P : Program} {gs : List (FuncId × Spec)} {ls : List (FuncId × Nat × BSpec)} {α : Type} (hm : Fit P) (hΓ : GamL P gs) (hΛ : LamL P ls) (f id n : Nat) (hl : isLoop id (bodyOf P f) = true) (L : Lw) {mkF : α → Tm} {mkH : α → Hp} {dec : Tm → Hp → Option α} {T : α → RT Out} (μ : α → Nat)
    (hdec : ∀ F h x, dec F h = some x → F = mkF x ∧ h = mkH x)
    (hbody : ∀ x K, (T x).holds K → (evC P (gam gs) (lam ls) n f (loopAt id (bodyOf P f)) (mkF x) (mkH x)).holds (RoundOk mkF mkH T μ id L.keep L.p L.q L.N L.ep x K)) : LamE P f id (loopS P L dec T) := by
  intro fn b hp c hc
  have hb : bodyOf P f = b := by unfold bodyOf; rw [hp]
  rw [hb] at hl hbody
  have hbl := isLoop_ok hl
  rw [hbl] at hc
  obtain rfl := List.mem_singleton.1 hc
  refine loop_ok hm (gam_ok hΓ) (lam_ok hΛ) (fun i sp hs x hx => lam_ok hΛ f fn b hp i sp hs x (blocks_in (id := id) (b := .loop (loopAt id b)) (by rw [hbl]; exact List.mem_singleton_self _) (by simpa only [blocksOf] using hx))) L μ hdec hbody
/-- a round, what it leaves under the old names -/
def roundT (L : Lw) (t : RT Out) : RT Out := t.bind fun r => bif Nat.ble L.q r.2.2.nv then .ok (r.1, r.2.1.can r.2.2 L.keep L.p L.q L.N, r.2.2.can L.p L.q L.N L.ep) else .bad 122
/-- behind a round: on with x', or out -/
def Round {α : Type} (mkF : α → Tm) (mkH : α → Hp) (T : α → RT Out) (μ : α → Nat) (id : Nat) (x : α) (K : Out → Prop) (r : Out) : Prop :=
  match r.1 with
  | .normal => ∃ x', (r.2.1 = mkF x' ∧ r.2.2 = mkH x') ∧ μ x' < μ x ∧ (T x').holds K
  | .exit j => if j = id then K (.normal, r.2.1, r.2.2) else K (.exit j, r.2.1, r.2.2)
  | .ret => K (.ret, r.2.1, r.2.2)
theorem loop_in2 {P : Program} {gs : List (FuncId × Spec)} {ls : List (FuncId × Nat × BSpec)} {α : Type} (hm : Fit P) (hΓ : GamL P gs) (hΛ : LamL P ls) (f id n : Nat) (hl : isLoop id (bodyOf P f) = true) (L : Lw) {mkF : α → Tm} {mkH : α → Hp} {dec : Tm → Hp → Option α} {T : α → RT Out} (μ : α → Nat)
    (hdec : ∀ F h x, dec F h = some x → F = mkF x ∧ h = mkH x)
    (hbody : ∀ x K, (T x).holds K → (roundT L (evC P (gam gs) (lam ls) n f (loopAt id (bodyOf P f)) (mkF x) (mkH x))).holds (Round mkF mkH T μ id x K)) : LamE P f id (loopS P L dec T) := by
  refine loop_in hm hΓ hΛ f id n hl L μ hdec fun x K H => ?_
  have := hbody x K H
  unfold roundT at this
  rw [RT.holds_bind] at this
  refine RT.holds_mono (fun r hr => ?_) _ this
  cases hq : Nat.ble L.q r.2.2.nv
  · rw [hq] at hr; exact hr.elim
  · rw [hq] at hr
    refine ⟨Nat.le_of_ble_eq_true hq, ?_⟩
    have hr' : Round mkF mkH T μ id x K (r.1, r.2.1.can r.2.2 L.keep L.p L.q L.N, r.2.2.can L.p L.q L.N L.ep) := hr
    unfold Round at hr'
    split at hr' <;> rename_i he <;> simp only at he <;> simp only [he] <;> exact hr'
/-- a pure function's contract -/
theorem pure_in {P : Program} {gs : List (FuncId × Spec)} {ls : List (FuncId × Nat × BSpec)} (hm : Fit P) (hΓ : GamL P gs) (hΛ : LamL P ls) (f n : Nat) {F : List AV → RT AV} (hF : ∀ args K, okL args → (F args).holds K → (treeF (evF P (gam gs) (lam ls) n f) args).holds fun r => ∃ y, Le r y ∧ K y) : SoundF P f (pureS P f F) :=
  pureS_tree (evF_ok hm (gam_ok hΓ) (lam_ok hΛ) n f) hF
/-- one contract or the other -/
def altS (c : List AV → Bool) (s1 s2 : Spec) : Spec := fun args h => bif c args then s1 args h else s2 args h
theorem alt_ok {P : Program} {f : FuncId} {c : List AV → Bool} {s1 s2 : Spec} (h1 : SoundF P f s1) (h2 : SoundF P f s2) : SoundF P f (altS c s1 s2) := by
  intro args h K H
  unfold altS at H
  cases hc : c args
  · rw [hc] at H; exact h2 args h K H
  · rw [hc] at H; exact h1 args h K H
/-- the first argument is a slice whose structure is known -/
def head1 : List AV → Bool
  | .sl kn _ _ _ :: _ => kn
  | .sc kn (.slice _ _ _) :: _ => kn
  | _ => false
/-- the same, arguments seen otherwise -/
theorem pure_by {P : Program} {gs : List (FuncId × Spec)} {ls : List (FuncId × Nat × BSpec)} (hm : Fit P) (hΓ : GamL P gs) (hΛ : LamL P ls) (f n : Nat) {F : List AV → RT AV} (hF : ∀ args K, okL args → (F args).holds K → ∃ args', (∀ E vs, RelL E args vs → RelL E args' vs) ∧ (treeF (evF P (gam gs) (lam ls) n f) args').holds fun r => ∃ y, Le r y ∧ K y) : SoundF P f (pureS P f F) :=
  pureS_tree2 (evF_ok hm (gam_ok hΓ) (lam_ok hΛ) n f) hF
end
end Go.Proofs.YtokiedeiamlnlaaGreat
