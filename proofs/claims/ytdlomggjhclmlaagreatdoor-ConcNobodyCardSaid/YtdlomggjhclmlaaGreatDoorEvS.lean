/- EvS: the same evaluator, its values laid out at each step (quicker in the kernel). No condition. -/
import Derived.Test.YtdlomggjhclmlaaGreatDoorEvI
namespace Go.Proofs.YtdlomggjhclmlaaGreatDoor
set_option linter.unusedSimpArgs false
set_option linter.unusedVariables false
open Go.RowKit
set_option maxRecDepth 10000
noncomputable section

section force
variable {α : Type}
def fN (n : Nat) (K : Nat → α) : α := @Nat.rec (fun _ => α) (K 0) (fun p _ => K (Nat.succ p)) n
theorem fN_eq (n : Nat) (K : Nat → α) : fN n K = K n := by cases n <;> rfl
def fI (n : Int) (K : Int → α) : α := @Int.rec (fun _ => α) (fun m => fN m fun m => K (.ofNat m)) (fun m => fN m fun m => K (.negSucc m)) n
theorem fI_eq : ∀ (n : Int) (K : Int → α), fI n K = K n
  | .ofNat m, K => fN_eq m fun m => K (.ofNat m)
  | .negSucc m, K => fN_eq m fun m => K (.negSucc m)
def fB (b : Bool) (K : Bool → α) : α := @Bool.rec (fun _ => α) (K false) (K true) b
theorem fB_eq (b : Bool) (K : Bool → α) : fB b K = K b := by cases b <;> rfl
def fBs (l : List UInt8) : (List UInt8 → α) → α := @List.rec UInt8 (fun _ => (List UInt8 → α) → α) (fun K => K []) (fun b _ ih K => fN b.toNat fun n => ih fun l => K (UInt8.ofNat n :: l)) l
theorem fBs_eq : ∀ (l : List UInt8) (K : List UInt8 → α), fBs l K = K l
  | [], _ => rfl
  | b :: l, K => by
    show fN b.toNat (fun n => fBs l fun l => K (UInt8.ofNat n :: l)) = _
    rw [fN_eq, fBs_eq l, UInt8.ofNat_toNat]
def fS (s : ByteArray) (K : ByteArray → α) : α := fBs s.data.toList fun l => K ⟨⟨l⟩⟩
theorem fS_eq (s : ByteArray) (K : ByteArray → α) : fS s K = K s := fBs_eq _ _
def fV (v : Value) (K : Value → α) : α := match v with
  | .int k n => fI n fun n => K (.int k n)
  | .bool b => fB b fun b => K (.bool b)
  | .string s => fS s fun s => K (.string s)
  | v => K v
theorem fV_eq (v : Value) (K : Value → α) : fV v K = K v := by
  unfold fV
  split
  · exact fI_eq _ _
  · exact fB_eq _ _
  · exact fS_eq _ _
  · rfl
def fD (d : D) : (D → α) → α := @D.rec (fun _ => (D → α) → α) (fun _ => (List D → α) → α) (fun K => K .n) (fun v K => K (.i v)) (fun v K => K (.b v)) (fun v K => K (.s v)) (fun _ ih K => ih fun v => K (.l v)) (fun _ ih K => ih fun v => K (.t v))
  (fun v K => fI v fun v => K (.ki v)) (fun v K => fB v fun v => K (.kb v)) (fun v K => fS v fun v => K (.ks v)) (fun _ ih K => ih fun v => K (.kl v)) (fun K => K []) (fun _ _ ih ihs K => ih fun x => ihs fun xs => K (x :: xs)) d
def fDL (l : List D) : (List D → α) → α := @List.rec D (fun _ => (List D → α) → α) (fun K => K []) (fun x _ ih K => fD x fun x => ih fun xs => K (x :: xs)) l
mutual
theorem fD_eq : ∀ (d : D) (K : D → α), fD d K = K d
  | .n, _ => rfl
  | .i _, _ => rfl
  | .b _, _ => rfl
  | .s _, _ => rfl
  | .l v, K => fDL_eq v fun v => K (.l v)
  | .t v, K => fDL_eq v fun v => K (.t v)
  | .ki v, K => fI_eq v fun v => K (.ki v)
  | .kb v, K => fB_eq v fun v => K (.kb v)
  | .ks v, K => fS_eq v fun v => K (.ks v)
  | .kl v, K => fDL_eq v fun v => K (.kl v)
theorem fDL_eq : ∀ (l : List D) (K : List D → α), @D.rec_1 (fun _ => (D → α) → α) (fun _ => (List D → α) → α) (fun K => K .n) (fun v K => K (.i v)) (fun v K => K (.b v)) (fun v K => K (.s v)) (fun _ ih K => ih fun v => K (.l v)) (fun _ ih K => ih fun v => K (.t v))
  (fun v K => fI v fun v => K (.ki v)) (fun v K => fB v fun v => K (.kb v)) (fun v K => fS v fun v => K (.ks v)) (fun _ ih K => ih fun v => K (.kl v)) (fun K => K []) (fun _ _ ih ihs K => ih fun x => ihs fun xs => K (x :: xs)) l K = K l
  | [], _ => rfl
  | x :: xs, K => by
    show fD x (fun x => _) = _
    rw [fD_eq x]
    exact fDL_eq xs fun xs => K (x :: xs)
end
/-- a list's spine -/
def fSp {β : Type} (l : List β) : (List β → α) → α := @List.rec β (fun _ => (List β → α) → α) (fun K => K []) (fun x _ ih K => ih fun xs => K (x :: xs)) l
theorem fSp_eq {β : Type} : ∀ (l : List β) (K : List β → α), fSp l K = K l
  | [], _ => rfl
  | x :: l, K => fSp_eq l fun l => K (x :: l)
def fDm (m : Bool) (d : D) (K : D → α) : α := bif m then fD d K else K d
theorem fDm_eq (m : Bool) (d : D) (K : D → α) : fDm m d K = K d := by cases m <;> first | rfl | exact fD_eq _ _
def fTip (t : Option (Nat × Nat)) (K : Option (Nat × Nat) → α) : α := match t with
  | some (k, g) => fN k fun k => fN g fun g => K (some (k, g))
  | none => K none
theorem fTip_eq (t : Option (Nat × Nat)) (K : Option (Nat × Nat) → α) : fTip t K = K t := by
  cases t with
  | none => rfl
  | some p => obtain ⟨k, g⟩ := p; show fN k (fun k => fN g fun g => K (some (k, g))) = _; rw [fN_eq, fN_eq]
/-- a value, laid out; m: all of it -/
def fA (m : Bool) (x : AV) : (AV → α) → α := @AV.rec (fun _ => (AV → α) → α) (fun _ => (List AV → α) → α) (fun K => K .any) (fun kn v K => fB kn fun kn => bif kn then fV v (fun v => K (.sc true v)) else K (.sc false v)) (fun kn es d tip K => fB kn fun kn => fTip tip fun tip => bif kn then fDm m d (fun d => K (.sl true es d tip)) else K (.sl false es d tip))
  (fun o off K => fN o fun o => fN off fun off => K (.ptr o off)) (fun o K => fN o fun o => K (.mp o)) (fun kn es d j K => fN j fun j => K (.ep kn es d j)) (fun f _ _ iha ihc K => iha fun a => ihc fun c => K (.fn f a c)) (fun _ ih K => ih fun cs => K (.agg cs)) (fun _ ih K => ih fun vs => K (.tup vs))
  (fun kn o n len K => fN o fun o => K (.rsl kn o n len)) (fun kn o n i j K => fN o fun o => K (.rp kn o n i j)) (fun es d K => K (.rw es d)) (fun o off n len cap K => fN o fun o => fN off fun off => fN len fun len => fN cap fun cap => K (.vsl o off n len cap)) (fun n len _ tip ih K => fN len fun len => fTip tip fun tip => ih fun cs => K (.al n len cs tip)) (fun _ ih K => ih fun cs => K (.ea cs)) (fun K => K []) (fun _ _ ih ihs K => ih fun x => ihs fun xs => K (x :: xs)) x
def fAL (m : Bool) (l : List AV) : (List AV → α) → α := @AV.rec_1 (fun _ => (AV → α) → α) (fun _ => (List AV → α) → α) (fun K => K .any) (fun kn v K => fB kn fun kn => bif kn then fV v (fun v => K (.sc true v)) else K (.sc false v)) (fun kn es d tip K => fB kn fun kn => fTip tip fun tip => bif kn then fDm m d (fun d => K (.sl true es d tip)) else K (.sl false es d tip))
  (fun o off K => fN o fun o => fN off fun off => K (.ptr o off)) (fun o K => fN o fun o => K (.mp o)) (fun kn es d j K => fN j fun j => K (.ep kn es d j)) (fun f _ _ iha ihc K => iha fun a => ihc fun c => K (.fn f a c)) (fun _ ih K => ih fun cs => K (.agg cs)) (fun _ ih K => ih fun vs => K (.tup vs))
  (fun kn o n len K => fN o fun o => K (.rsl kn o n len)) (fun kn o n i j K => fN o fun o => K (.rp kn o n i j)) (fun es d K => K (.rw es d)) (fun o off n len cap K => fN o fun o => fN off fun off => fN len fun len => fN cap fun cap => K (.vsl o off n len cap)) (fun n len _ tip ih K => fN len fun len => fTip tip fun tip => ih fun cs => K (.al n len cs tip)) (fun _ ih K => ih fun cs => K (.ea cs)) (fun K => K []) (fun _ _ ih ihs K => ih fun x => ihs fun xs => K (x :: xs)) l
mutual
theorem fA_eq (m : Bool) : ∀ (x : AV) (K : AV → α), fA m x K = K x
  | .any, _ => rfl
  | .sc kn v, K => by
    cases kn
    · rfl
    · exact fV_eq v fun v => K (.sc true v)
  | .sl kn es d tip, K => by
    cases kn
    · exact fTip_eq tip fun tip => K (.sl false es d tip)
    · exact (fTip_eq tip fun tip => fDm m d fun d => K (.sl true es d tip)).trans (fDm_eq m d fun d => K (.sl true es d tip))
  | .ptr o off, K => by
    show fN o (fun o => fN off fun off => K (.ptr o off)) = _
    rw [fN_eq, fN_eq]
  | .mp o, K => fN_eq o fun o => K (.mp o)
  | .ep kn es d j, K => fN_eq j fun j => K (.ep kn es d j)
  | .fn f a c, K => by
    show fAL m a (fun a => fAL m c fun c => K (.fn f a c)) = _
    rw [fAL_eq m a, fAL_eq m c]
  | .agg cs, K => fAL_eq m cs fun cs => K (.agg cs)
  | .tup vs, K => fAL_eq m vs fun vs => K (.tup vs)
  | .rsl kn o n len, K => fN_eq o fun o => K (.rsl kn o n len)
  | .rp kn o n i j, K => fN_eq o fun o => K (.rp kn o n i j)
  | .rw _ _, _ => rfl
  | .vsl o off n len cap, K => by
    show fN o (fun o => fN off fun off => fN len fun len => fN cap fun cap => K (.vsl o off n len cap)) = _
    rw [fN_eq, fN_eq, fN_eq, fN_eq]
  | .al n len cs tip, K => by
    show fN len (fun len => fTip tip fun tip => fAL m cs fun cs => K (.al n len cs tip)) = _
    rw [fN_eq, fTip_eq, fAL_eq m cs]
  | .ea cs, K => fAL_eq m cs fun cs => K (.ea cs)
theorem fAL_eq (m : Bool) : ∀ (l : List AV) (K : List AV → α), fAL m l K = K l
  | [], _ => rfl
  | x :: xs, K => by
    show fA m x (fun x => fAL m xs fun xs => K (x :: xs)) = _
    rw [fA_eq m x, fAL_eq m xs]
end
/-- the heap's numbers, the last object -/
def fH (m : Bool) (h : Hp) (K : Hp → α) : α := @Hp.rec (fun _ => α) (fun ob nx gn nv ng ep => fN nx fun nx => fN nv fun nv => fN ng fun ng => fN ep fun ep => match ob, gn with
  | (o, cs) :: r, (k, g, e) :: r' => fN o fun o => fAL m cs fun cs => fN k fun k => fN g fun g => K ⟨(o, cs) :: r, nx, (k, g, e) :: r', nv, ng, ep⟩
  | (o, cs) :: r, [] => fN o fun o => fAL m cs fun cs => K ⟨(o, cs) :: r, nx, [], nv, ng, ep⟩
  | [], (k, g, e) :: r' => fN k fun k => fN g fun g => K ⟨[], nx, (k, g, e) :: r', nv, ng, ep⟩
  | [], [] => K ⟨[], nx, [], nv, ng, ep⟩) h
theorem fH_eq (m : Bool) (h : Hp) (K : Hp → α) : fH m h K = K h := by
  obtain ⟨ob, nx, gn, nv, ng, ep⟩ := h
  unfold fH
  simp only [fN_eq]
  split <;> simp only [fN_eq, fAL_eq]
def fT (F : Tm) (K : Tm → α) : α := @Tm.rec (fun _ => α) (fun nt tm df => K ⟨nt, tm, df⟩) F
theorem fT_eq (F : Tm) (K : Tm → α) : fT F K = K F := rfl
end force
/-- what changes the heap -/
def heapO (o : Oper) : Bool := match o.op with
  | .alloc _ | .box .. | .buildSlice .. | .makeSlice .. | .store .. | .makeMap .. | .mapUpdate .. | .range .. | .next .. | .mapEntry .. | .entryStore .. => true
  | .call { callee := .builtin .copy, .. } => true
  | .call { callee := .builtin .delete, .. } => true
  | .call { callee := .value _, .. } => true
  | .call { callee := .builtin .append, .. } => true
  | _ => false
/-! A drawn region's orders, laid out ahead. -/
inductive Pl where
  | done | bad (n : Nat)
  | early (i : Nat) (o : Oper) (x : Pl)
  | one (o : Oper) (x : Pl)
  | two (o p : Oper) (x y : Pl)
  | three (o p q : Oper) (x y z : Pl)
  | four (o p q u : Oper) (x y z v : Pl)
/-- an operation, in numbers: what it waits for, what it looks at, where it puts -/
structure Row where
  am : Nat
  lk : Nat
  ds : Nat
  er : Bool
  op : Oper
def bit (m i : Nat) : Bool := Nat.beq (Nat.land (Nat.shiftRight m i) 1) 1
def orB (m i : Nat) : Nat := Nat.lor m (Nat.shiftLeft 1 i)
def amOf (o : Oper) : Nat := o.after.toList.foldl (fun m e => bif Region.binds .any e then orB m e.on else m) 0
def lkOf (ops : Array Oper) (o : Oper) : Nat := (o.looksAt ops).foldl orB 0
def rowOfO (er : Oper → Bool) (ops : Array Oper) (o : Oper) : Row := ⟨amOf o, lkOf ops o, match o.dst with | some d => d + 1 | none => 0, er o, o⟩
theorem bit_iff {m i : Nat} : bit m i = m.testBit i := by
  unfold bit Nat.testBit
  rw [show Nat.land (Nat.shiftRight m i) 1 = (m >>> i) &&& 1 from rfl, Nat.and_comm 1]
  have : (m >>> i) &&& 1 = (m >>> i) % 2 := Nat.and_one_is_mod _
  rw [this]
  rcases Nat.mod_two_eq_zero_or_one (m >>> i) with h | h <;> rw [h] <;> rfl
theorem bit_or {m i j : Nat} : bit (orB m i) j = (bit m j || decide (i = j)) := by
  rw [bit_iff, bit_iff]
  unfold orB
  rw [show Nat.lor m (Nat.shiftLeft 1 i) = m ||| (1 <<< i) from rfl, Nat.testBit_or, Nat.testBit_shiftLeft]
  congr 1
  by_cases h : i = j
  · subst h; simp
  · rw [decide_eq_false h]
    by_cases h2 : j ≥ i
    · obtain ⟨k, hk⟩ : ∃ k, j - i = k + 1 := ⟨j - i - 1, by omega⟩
      rw [hk]
      simp [Nat.testBit_succ]
    · simp [h2]
theorem amOf_bit (o : Oper) (j : Nat) : bit (amOf o) j = o.after.toList.any fun e => Region.binds .any e && e.on == j := by
  have key : ∀ (l : List Edge) (m : Nat), bit (l.foldl (fun m e => bif Region.binds .any e then orB m e.on else m) m) j = (bit m j || l.any fun e => Region.binds .any e && e.on == j) := by
    intro l
    induction l with
    | nil => intro m; simp
    | cons e l ih =>
      intro m
      rw [List.foldl_cons, ih, List.any_cons]
      cases hb : Region.binds .any e
      · simp
      · rw [cond_true, bit_or]
        by_cases h : e.on = j
        · subst h; simp
        · rw [decide_eq_false h, show (e.on == j) = false from beq_false_of_ne h]; simp
  unfold amOf
  rw [key]
  have : bit 0 j = false := by rw [bit_iff]; simp
  rw [this, Bool.false_or]
theorem lkOf_bit (ops : Array Oper) (o : Oper) (t : Nat) : bit (lkOf ops o) t = (o.looksAt ops).contains t := by
  have key : ∀ (l : List Nat) (m : Nat), bit (l.foldl orB m) t = (bit m t || l.contains t) := by
    intro l
    induction l with
    | nil => intro m; simp
    | cons e l ih =>
      intro m
      rw [List.foldl_cons, ih, bit_or, List.contains_cons]
      by_cases h : e = t
      · subst h; simp
      · rw [decide_eq_false h, show (t == e) = false from beq_false_of_ne fun x => h x.symm]; simp
  unfold lkOf
  rw [key]
  have : bit 0 t = false := by rw [bit_iff]; simp
  rw [this, Bool.false_or]
theorem sub_iff {m L : Nat} : Nat.beq (Nat.land m L) m = true ↔ ∀ j, bit m j = true → bit L j = true := by
  rw [show Nat.land m L = m &&& L from rfl]
  constructor
  · intro h j hj
    have h := Nat.eq_of_beq_eq_true h
    rw [bit_iff] at hj ⊢
    rw [← h, Nat.testBit_and, Bool.and_eq_true] at hj
    exact hj.2
  · intro h
    refine (Nat.beq_eq ▸ ?_ : Nat.beq (m &&& L) m = true)
    refine Nat.eq_of_testBit_eq fun j => ?_
    rw [Nat.testBit_and]
    cases hj : m.testBit j
    · rfl
    · have := h j (by rw [bit_iff]; exact hj)
      rw [bit_iff] at this
      rw [this]; rfl
def rdyM : List Row → Nat → Nat → List (Nat × Row)
  | [], _, _ => []
  | r :: rs, i, L => bif bit L i then rdyM rs (i + 1) L else bif Nat.beq (Nat.land r.am L) r.am then (i, r) :: rdyM rs (i + 1) L else rdyM rs (i + 1) L
def apartM (x y : Row) : Bool := bif (bif Nat.beq x.ds 0 then true else bif bit y.lk (x.ds - 1) then false else !(Nat.beq y.ds x.ds)) then (bif Nat.beq y.ds 0 then true else !(bit x.lk (y.ds - 1))) else false
def freeM (r : Row) (i L : Nat) : List Row → Nat → Bool
  | [], _ => true
  | q :: rs, j => bif (bif Nat.beq j i then true else bif bit L j then true else bif bit q.am i then true else apartM r q) then freeM r i L rs (j + 1) else false
def findE' : List (Nat × Row) → Option (Nat × Row)
  | [] => none
  | x :: xs => bif x.2.er then some x else findE' xs
def planM : Nat → List Row → Nat → Pl
  | 0, rs, L => match rdyM rs 0 L with | [] => .done | _ => .bad 95
  | n + 1, rs, L => match findE' (rdyM rs 0 L) with
    | some (i, r) => bif freeM r i L rs 0 then .early i r.op (planM n rs (orB L i)) else .bad 96
    | none => match rdyM rs 0 L with
      | [] => .done
      | [(i, r)] => .one r.op (planM n rs (orB L i))
      | [(i, r), (j, q)] => .two r.op q.op (planM n rs (orB L i)) (planM n rs (orB L j))
      | [(i, r), (j, q), (k, t)] => .three r.op q.op t.op (planM n rs (orB L i)) (planM n rs (orB L j)) (planM n rs (orB L k))
      | [(i, r), (j, q), (k, t), (l, u)] => .four r.op q.op t.op u.op (planM n rs (orB L i)) (planM n rs (orB L j)) (planM n rs (orB L k)) (planM n rs (orB L l))
      | _ => .bad 100
def rowsM (er : Oper → Bool) (ops : Array Oper) : List Row := ops.toList.map (rowOfO er ops)
theorem rdyM_eq {er : Oper → Bool} {ops : Array Oper} {listed : Array Bool} {L : Nat} (hs : listed.size = ops.size) (hL : ∀ j, bit L j = listed.getD j false) : ∀ (l : List Oper) (i : Nat), (∀ k, l[k]? = ops[i + k]?) →
    (rdyM (l.map (rowOfO er ops)) i L).map Prod.fst = (List.range' i l.length).filter (fun i => !listed.getD i true && ((ops[i]?).map (·.after.all fun e => !Region.binds .any e || listed.getD e.on false)).getD false) ∧ ∀ p ∈ rdyM (l.map (rowOfO er ops)) i L, ∃ o, ops[p.1]? = some o ∧ p.2 = rowOfO er ops o
  | [], i, _ => ⟨rfl, fun p hp => by simp [rdyM] at hp⟩
  | o :: l, i, h => by
    have h0 : ops[i]? = some o := by have := h 0; simpa using this.symm
    have hi : i < ops.size := (Array.getElem?_eq_some_iff.1 h0).1
    obtain ⟨ih1, ih2⟩ := rdyM_eq hs hL l (i + 1) (fun k => by have := h (k + 1); rw [List.getElem?_cons_succ] at this; rw [this]; congr 1; omega)
    have hgt : listed.getD i true = bit L i := by
      rw [hL, Array.getD_eq_getD_getElem?, Array.getD_eq_getD_getElem?, Array.getElem?_eq_getElem (by rw [hs]; exact hi)]; rfl
    have hsub : Nat.beq (Nat.land (amOf o) L) (amOf o) = o.after.all fun e => !Region.binds .any e || listed.getD e.on false := by
      rw [Bool.eq_iff_iff, sub_iff, Array.all_eq_true']
      constructor
      · intro hh e he
        cases hb : Region.binds .any e
        · rfl
        · have := hh e.on (by rw [amOf_bit]; exact List.any_eq_true.2 ⟨e, Array.mem_toList_iff.2 he, by simp [hb]⟩)
          rw [hL] at this
          simp [this]
      · intro hh j hj
        rw [amOf_bit] at hj
        obtain ⟨e, he, hx⟩ := List.any_eq_true.1 hj
        simp only [Bool.and_eq_true, beq_iff_eq] at hx
        have := hh e (Array.mem_toList_iff.1 he)
        rw [hx.1] at this
        rw [hL, ← hx.2]; simpa using this
    rw [List.map_cons, List.length_cons, List.range'_succ, List.filter_cons]
    simp only [rdyM, h0, Option.map_some, Option.getD_some, hgt]
    rw [show (rowOfO er ops o).am = amOf o from rfl, hsub]
    cases hb : bit L i
    · simp only [Bool.not_false, Bool.true_and, cond_false]
      cases hc : o.after.all fun e => !Region.binds .any e || listed.getD e.on false
      · simp only [cond_false, Bool.false_eq_true, if_false]; exact ⟨ih1, ih2⟩
      · simp only [cond_true, if_true, List.map_cons]
        refine ⟨by rw [ih1], fun p hp => ?_⟩
        rcases List.mem_cons.1 hp with rfl | hp
        · exact ⟨o, h0, rfl⟩
        · exact ih2 p hp
    · simp only [Bool.not_true, Bool.false_and, cond_true, Bool.false_eq_true, if_false]; exact ⟨ih1, ih2⟩
theorem nbeq (a b : Nat) : Nat.beq a b = (a == b) := by
  rw [Bool.eq_iff_iff]
  constructor
  · intro h; simpa using Nat.eq_of_beq_eq_true h
  · intro h
    have h2 : a = b := by simpa using h
    rw [h2]; exact Nat.beq_refl b
theorem apartM_eq (er : Oper → Bool) (ops : Array Oper) (x y : Oper) : apartM (rowOfO er ops x) (rowOfO er ops y) = x.apart ops y := by
  unfold apartM Oper.apart rowOfO
  simp only [lkOf_bit]
  cases hx : x.dst with
  | none => cases hy : y.dst with
    | none => rfl
    | some e =>
      simp only [Nat.add_sub_cancel]
      rw [show Nat.beq 0 0 = true from rfl, show Nat.beq (e + 1) 0 = false from rfl]
      simp
  | some d => cases hy : y.dst with
    | none =>
      simp only [Nat.add_sub_cancel]
      rw [show Nat.beq (d + 1) 0 = false from rfl, show Nat.beq 0 (d + 1) = false from rfl, show Nat.beq 0 0 = true from rfl]
      cases (y.looksAt ops).contains d <;> rfl
    | some e =>
      simp only [Nat.add_sub_cancel]
      rw [show Nat.beq (d + 1) 0 = false from rfl, show Nat.beq (e + 1) 0 = false from rfl]
      have : Nat.beq (e + 1) (d + 1) = decide (e = d) := by
        rw [nbeq, Bool.eq_iff_iff]
        simp
      rw [this]
      by_cases h : e = d
      · subst h
        cases (y.looksAt ops).contains e <;> cases (x.looksAt ops).contains e <;> simp
      · rw [decide_eq_false h]
        have h2 : (some e != some d) = true := by simp [h]
        rw [h2]
        cases (y.looksAt ops).contains d <;> cases (x.looksAt ops).contains e <;> rfl
theorem freeM_ok {er : Oper → Bool} {ops : Array Oper} {listed : Array Bool} {L i : Nat} {oi : Oper} (hs : listed.size = ops.size) (hL : ∀ j, bit L j = listed.getD j false) : ∀ (l : List Oper) (s : Nat), (∀ k, l[k]? = ops[s + k]?) →
    freeM (rowOfO er ops oi) i L (l.map (rowOfO er ops)) s = (List.range' s l.length).all fun j => j == i || listed.getD j true || match ops[j]? with
      | some oj => oj.after.any (fun e => Region.binds .any e && e.on == i) || oi.apart ops oj
      | none => true
  | [], s, _ => rfl
  | o :: l, s, h => by
    have h0 : ops[s]? = some o := by have := h 0; simpa using this.symm
    have hi : s < ops.size := (Array.getElem?_eq_some_iff.1 h0).1
    have ih := freeM_ok (er := er) (i := i) (oi := oi) hs hL l (s + 1) (fun k => by have := h (k + 1); rw [List.getElem?_cons_succ] at this; rw [this]; congr 1; omega)
    have hgt : listed.getD s true = bit L s := by
      rw [hL, Array.getD_eq_getD_getElem?, Array.getD_eq_getD_getElem?, Array.getElem?_eq_getElem (by rw [hs]; exact hi)]; rfl
    rw [List.map_cons, List.length_cons, List.range'_succ, List.all_cons, ← ih]
    simp only [freeM, h0, hgt]
    rw [apartM_eq, show (rowOfO er ops o).am = amOf o from rfl, amOf_bit]
    have hany : (o.after.toList.any fun e => Region.binds .any e && e.on == i) = o.after.any (fun e => Region.binds .any e && e.on == i) := by simp
    rw [hany]
    have hb : Nat.beq s i = (s == i) := nbeq s i
    rw [hb]
    cases (s == i) <;> cases bit L s <;> cases (o.after.any fun e => Region.binds .any e && e.on == i) <;> cases (oi.apart ops o) <;> rfl
section run
variable (P : Program) (m : Bool) (er : Oper → Bool) (call : FuncId → Spec) (ops : Array Oper)
/-- a step, its answer laid out -/
def fvStep (o : Oper) (F : Tm) (h : Hp) : RT (Tm × Hp) :=
  guardA ops o F (fun F => match deferA o F with
    | some r => r.bind fun F => .ok (F, h)
    | none => (evOp P call o F h).bind fun r => fA m r.1 fun v => bif heapO o then fH m r.2 fun h' => (putA F o.dst v).bind fun F => .ok (F, h') else (putA F o.dst v).bind fun F => .ok (F, r.2)) (fun F => (putA F o.dst (.tup [])).bind fun F => .ok (F, h))
theorem fvStep_eq (o : Oper) (F : Tm) (h : Hp) : fvStep P m call ops o F h = evStep P call ops o F h := by
  unfold fvStep evStep
  congr 1
  funext F
  cases deferA o F with
  | some r => rfl
  | none =>
    simp only
    congr 1
    funext r
    rw [fA_eq]
    cases heapO o
    · rfl
    · rw [cond_true, fH_eq]
def goTH {α : Type} (x : Tm × Hp) (K : Tm → Hp → α) : α := @Prod.rec Tm Hp (fun _ => α) (fun F h => fT F fun F => @Hp.rec (fun _ => α) (fun ob nx gn nv ng ep => K F ⟨ob, nx, gn, nv, ng, ep⟩) h) x
theorem goTH_eq {α : Type} (x : Tm × Hp) (K : Tm → Hp → α) : goTH x K = K x.1 x.2 := rfl
def fvList (l : List Oper) : Tm → Hp → RT (Tm × Hp) :=
  @List.rec Oper (fun _ => Tm → Hp → RT (Tm × Hp)) (fun F h => .ok (F, h)) (fun o _ r F h => (fvStep P m call ops o F h).bind fun x => goTH x r) l
theorem fvList_eq : ∀ (l : List Oper) (F : Tm) (h : Hp), fvList P m call ops l F h = evList P call ops l F h
  | [], _, _ => rfl
  | o :: l, F, h => by
    rw [evList_cons]
    show (fvStep P m call ops o F h).bind _ = _
    rw [fvStep_eq]
    congr 1
    funext x
    rw [goTH_eq]
    exact fvList_eq l _ _
def runPl (pl : Pl) : Prm → Tm → Hp → RT (Tm × Hp) :=
  @Pl.rec (fun _ => Prm → Tm → Hp → RT (Tm × Hp)) (fun _ F h => .ok (F, h)) (fun n _ _ _ => .bad n)
    (fun i o _ r pr F h => (fvStep P m call ops o F h).bind fun x => goTH x fun F' h' => r (promise i o F h ++ pr) F' h')
    (fun o _ r pr F h => (fvStep P m call ops o F h).bind fun x => bif keeps x.2 (keepP o pr) then goTH x (r (keepP o pr)) else .bad 98)
    (fun o p _ _ r s pr F h => .all ((fvStep P m call ops o F h).bind fun x => bif keeps x.2 (keepP o pr) then goTH x (r (keepP o pr)) else .bad 98) ((fvStep P m call ops p F h).bind fun x => bif keeps x.2 (keepP p pr) then goTH x (s (keepP p pr)) else .bad 98))
    (fun o p q _ _ _ r s t pr F h => .all ((fvStep P m call ops o F h).bind fun x => bif keeps x.2 (keepP o pr) then goTH x (r (keepP o pr)) else .bad 98) (.all ((fvStep P m call ops p F h).bind fun x => bif keeps x.2 (keepP p pr) then goTH x (s (keepP p pr)) else .bad 98) ((fvStep P m call ops q F h).bind fun x => bif keeps x.2 (keepP q pr) then goTH x (t (keepP q pr)) else .bad 98)))
    (fun o p q u _ _ _ _ r s t v pr F h => .all ((fvStep P m call ops o F h).bind fun x => bif keeps x.2 (keepP o pr) then goTH x (r (keepP o pr)) else .bad 98) (.all ((fvStep P m call ops p F h).bind fun x => bif keeps x.2 (keepP p pr) then goTH x (s (keepP p pr)) else .bad 98) (.all ((fvStep P m call ops q F h).bind fun x => bif keeps x.2 (keepP q pr) then goTH x (t (keepP q pr)) else .bad 98) ((fvStep P m call ops u F h).bind fun x => bif keeps x.2 (keepP u pr) then goTH x (v (keepP u pr)) else .bad 98)))) pl
theorem findE_eq {er : Oper → Bool} {ops : Array Oper} {f : Nat → Bool} (hf : ∀ i o, ops[i]? = some o → f i = er o) : ∀ {l : List (Nat × Row)}, (∀ p ∈ l, ∃ o, ops[p.1]? = some o ∧ p.2 = rowOfO er ops o) → (l.map Prod.fst).find? f = (findE' l).map Prod.fst ∧ ∀ p, findE' l = some p → p ∈ l
  | [], _ => ⟨rfl, fun p hp => by cases hp⟩
  | x :: l, h => by
    obtain ⟨o, h1, h2⟩ := h x (List.mem_cons_self ..)
    obtain ⟨ih1, ih2⟩ := findE_eq hf (l := l) fun p hp => h p (List.mem_cons_of_mem _ hp)
    rw [List.map_cons, List.find?_cons]
    simp only [findE', hf _ _ h1]
    rw [h2, show (rowOfO er ops o).er = er o from rfl]
    cases he : er o
    · exact ⟨ih1, fun p hp => List.mem_cons_of_mem _ (ih2 p hp)⟩
    · exact ⟨rfl, fun p hp => by have : x = p := Option.some.inj hp; rw [← this]; exact List.mem_cons_self ..⟩
theorem runPl_eq : ∀ (n : Nat) (listed : Array Bool) (L : Nat), listed.size = ops.size → (∀ j, bit L j = listed.getD j false) → ∀ (pr : Prm) (F : Tm) (h : Hp),
    runPl P m call ops (planM n (rowsM er ops) L) pr F h = evDrawn P er call ops n listed pr F h
  | 0, listed, L, hs, hL, pr, F, h => by
    obtain ⟨h1, _⟩ := rdyM_eq hs hL ops.toList 0 (fun k => by simp)
    have hr : (rdyM (rowsM er ops) 0 L).map Prod.fst = Region.ready .any ops listed := by
      unfold rowsM Region.ready
      rw [h1, List.range_eq_range']; simp
    unfold evDrawn planM
    rw [← hr]
    cases rdyM (rowsM er ops) 0 L with
    | nil => rfl
    | cons x l => rfl
  | n + 1, listed, L, hs, hL, pr, F, h => by
    obtain ⟨h1, h2⟩ := rdyM_eq hs hL ops.toList 0 (fun k => by simp)
    have hr : (rdyM (rowsM er ops) 0 L).map Prod.fst = Region.ready .any ops listed := by
      unfold rowsM Region.ready
      rw [h1, List.range_eq_range']; simp
    have h2' : ∀ p ∈ rdyM (rowsM er ops) 0 L, ∃ o, ops[p.1]? = some o ∧ p.2 = rowOfO er ops o := h2
    have g2 := (findE_eq (f := fun i => match ops[i]? with | some o => er o | none => false) (fun i o ho => by simp only [ho]) h2').2
    have next : ∀ i, ops[i]? ≠ none → ∀ (pr : Prm) (F : Tm) (h : Hp), runPl P m call ops (planM n (rowsM er ops) (orB L i)) pr F h = evDrawn P er call ops n (listed.setIfInBounds i true) pr F h := fun i hi pr F h => by
      have hlt : i < ops.size := by
        rcases Nat.lt_or_ge i ops.size with h | h
        · exact h
        · exact absurd (Array.getElem?_eq_none h) hi
      refine runPl_eq n _ _ (by simpa using hs) (fun j => ?_) pr F h
      rw [bit_or, hL]
      by_cases e : i = j
      · subst e; simp [hs, hlt]
      · simp [Array.getElem?_setIfInBounds_ne e, e]
    have one : ∀ i r, (i, r) ∈ rdyM (rowsM er ops) 0 L → ((fvStep P m call ops r.op F h).bind fun x => bif keeps x.2 (keepP r.op pr) then goTH x (runPl P m call ops (planM n (rowsM er ops) (orB L i)) (keepP r.op pr)) else .bad 98) = match ops[i]? with
        | some o => (evStep P call ops o F h).bind fun r => bif keeps r.2 (keepP o pr) then evDrawn P er call ops n (listed.setIfInBounds i true) (keepP o pr) r.1 r.2 else .bad 98
        | none => .bad 99 := fun i r hm => by
      obtain ⟨o, k1, k2⟩ := h2' _ hm
      simp only at k1 k2
      subst k2
      rw [k1]
      show (fvStep P m call ops o F h).bind _ = _
      rw [fvStep_eq]
      simp only
      congr 1
      funext x
      rw [show (rowOfO er ops o).op = o from rfl, goTH_eq, next i (by rw [k1]; simp)]
    unfold evDrawn planM
    simp only
    rw [← hr, (findE_eq (fun i o ho => by simp only [ho]) h2').1]
    cases hf : findE' (rdyM (rowsM er ops) 0 L) with
    | some p =>
      obtain ⟨i, r⟩ := p
      obtain ⟨o, k1, k2⟩ := h2' _ (g2 _ hf)
      simp only at k1 k2
      subst k2
      simp only [Option.map_some, k1]
      have hfree : freeM (rowOfO er ops o) i L (rowsM er ops) 0 = Region.free .any ops listed i := by
        have := freeM_ok (er := er) (i := i) (oi := o) hs hL ops.toList 0 (fun k => by simp)
        unfold rowsM Region.free
        rw [this, k1, List.range_eq_range', Array.length_toList]
        rfl
      rw [hfree]
      cases Region.free .any ops listed i
      · rfl
      · simp only [cond_true]
        show (fvStep P m call ops o F h).bind _ = _
        rw [fvStep_eq]
        congr 1
        funext x
        rw [goTH_eq]
        exact next i (by rw [k1]; simp) _ _ _
    | none =>
      simp only [Option.map_none]
      generalize hrl : rdyM (rowsM er ops) 0 L = rl
      rw [hrl] at one
      match rl, one with
      | [], _ => rfl
      | [(i, r)], one => exact one i r (by simp)
      | [(i, r), (j, q)], one => exact congr (congrArg RT.all (one i r (by simp))) (one j q (by simp))
      | [(i, r), (j, q), (k, t)], one => exact congr (congrArg RT.all (one i r (by simp))) (congr (congrArg RT.all (one j q (by simp))) (one k t (by simp)))
      | [(i, r), (j, q), (k, t), (l, u)], one => exact congr (congrArg RT.all (one i r (by simp))) (congr (congrArg RT.all (one j q (by simp))) (congr (congrArg RT.all (one k t (by simp))) (one l u (by simp))))
      | _ :: _ :: _ :: _ :: _ :: _, _ => rfl
variable (Γ : FuncId → Option Spec) (Λ : FuncId → Nat → Option BSpec)
/-- code, its values laid out -/
def fvC (m : Bool) : Nat → FuncId → Code → Tm → Hp → RT Out
  | 0, _, _, _, _ => .bad 101
  | n + 1, f, c, F, h =>
    match c with
    | .skip => .ok (.normal, F, h)
    | .region _ ops false => (fvList P m (callE P Γ (fvC m n)) ops ops.toList F h).bind fun r => .ok (.normal, r.1, r.2)
    | .region id ops true => bif asRow P Λ f id ops then (evReg P (callE P Γ (fvC m n)) ops F h).bind fun r => .ok (.normal, r.1, r.2) else bif asLate P Λ f id ops then (evLateR P (callE P Γ (fvC m n)) ops F h).bind fun r => .ok (.normal, r.1, r.2) else bif Region.noSelect ops then (runPl P m (callE P Γ (fvC m n)) ops (planM ops.size (rowsM (erOf P Λ f id) ops) 0) [] F h).bind fun r => .ok (.normal, r.1, r.2) else .bad 108
    | .seq a b => (fvC m n f a F h).bind fun r => match r.1 with | .normal => goTH r.2 (fvC m n f b) | e => .ok (e, r.2.1, r.2.2)
    | .cond c a b => match c with
      | .tmp t => match look t F.tm with
        | .sc kn (.bool v) => brk kn v (fvC m n f a (setA F t true) h) (fvC m n f b (setA F t false) h)
        | _ => .bad 104
      | .const (.bool true) => fvC m n f a F h
      | .const (.bool false) => fvC m n f b F h
      | _ => .bad 105
    | .block id b => match Λ f id with
      | some sp => sp F h
      | none => (fvC m n f b F h).bind fun r => match r.1 with
        | .exit j => bif Nat.beq j id then .ok (.normal, r.2.1, r.2.2) else .ok (.exit j, r.2.1, r.2.2)
        | e => .ok (e, r.2.1, r.2.2)
    | .loop b => (fvC m n f b F h).bind fun r => match r.1 with
      | .normal => goTH r.2 (fvC m n f (.loop b))
      | e => .ok (e, r.2.1, r.2.2)
    | .exit id => .ok (.exit id, F, h)
    | .ret => .ok (.ret, F, h)
    | .scope b => fvC m n f b F h
    | .label _ => .ok (.normal, F, h)
    | _ => .bad 106
theorem fvC_eq (m : Bool) : ∀ (n : Nat), fvC P Γ Λ m n = evC P Γ Λ n
  | 0 => by funext f c F h; rfl
  | n + 1 => by
    have ih := fvC_eq m n
    funext f c F h
    cases c with
    | region id ops draw => cases draw with
      | false =>
        show (fvList P m (callE P Γ (fvC P Γ Λ m n)) ops ops.toList F h).bind _ = (evList P (callE P Γ (evC P Γ Λ n)) ops ops.toList F h).bind _
        rw [ih, fvList_eq]
      | true =>
        have hrun := runPl_eq P m (erOf P Λ f id) (callE P Γ (evC P Γ Λ n)) ops ops.size (Array.replicate ops.size false) 0 (by simp) (fun j => by
          have : bit 0 j = false := by rw [bit_iff]; simp
          rw [this, Array.getD_eq_getD_getElem?, Array.getElem?_replicate]
          split <;> rfl)
        show (bif asRow P Λ f id ops then (evReg P (callE P Γ (fvC P Γ Λ m n)) ops F h).bind _ else bif asLate P Λ f id ops then (evLateR P (callE P Γ (fvC P Γ Λ m n)) ops F h).bind _ else bif Region.noSelect ops then (runPl P m (callE P Γ (fvC P Γ Λ m n)) ops (planM ops.size (rowsM (erOf P Λ f id) ops) 0) [] F h).bind _ else _) = (bif asRow P Λ f id ops then (evReg P (callE P Γ (evC P Γ Λ n)) ops F h).bind _ else bif asLate P Λ f id ops then (evLateR P (callE P Γ (evC P Γ Λ n)) ops F h).bind _ else bif Region.noSelect ops then (evDrawn P (erOf P Λ f id) (callE P Γ (evC P Γ Λ n)) ops ops.size (Array.replicate ops.size false) [] F h).bind _ else _)
        rw [ih, hrun]
    | seq a b =>
      show (fvC P Γ Λ m n f a F h).bind _ = (evC P Γ Λ n f a F h).bind _
      rw [ih]; rfl
    | cond c a b =>
      show (match c with | .tmp t => _ | .const (.bool true) => _ | .const (.bool false) => _ | _ => _) = (match c with | .tmp t => _ | .const (.bool true) => _ | .const (.bool false) => _ | _ => _)
      rw [ih]; rfl
    | block id b =>
      show (match Λ f id with | some sp => sp F h | none => (fvC P Γ Λ m n f b F h).bind _) = (match Λ f id with | some sp => sp F h | none => (evC P Γ Λ n f b F h).bind _)
      rw [ih]; rfl
    | loop b =>
      show (fvC P Γ Λ m n f b F h).bind _ = (evC P Γ Λ n f b F h).bind _
      rw [ih]; rfl
    | scope b =>
      show fvC P Γ Λ m n f b F h = evC P Γ Λ n f b F h
      rw [ih]
    | _ => rfl
/-- a call, by the function's own code -/
def fvF (m : Bool) (n : Nat) (f : FuncId) : Spec := fun args h => match plainF P f with
  | none => .bad 102
  | some (fn, b) => fAL m args fun args => bodyE P (fvC P Γ Λ m n) f fn b args h
theorem fvF_eq (m : Bool) (n : Nat) (f : FuncId) : fvF P Γ Λ m n f = evF P Γ Λ n f := by
  funext args h
  unfold fvF evF
  rw [fvC_eq]
  cases plainF P f with
  | none => rfl
  | some p => exact fAL_eq m args _
end run
end
end Go.Proofs.YtdlomggjhclmlaaGreatDoor
