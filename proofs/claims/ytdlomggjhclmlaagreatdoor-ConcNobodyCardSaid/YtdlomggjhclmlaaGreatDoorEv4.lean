/- Ev4: the evaluator's operations on values are right, the rest. No condition. -/
import Derived.Test.YtdlomggjhclmlaaGreatDoorMg2
namespace Go.Proofs.YtdlomggjhclmlaaGreatDoor
set_option linter.unusedSimpArgs false
set_option linter.unusedVariables false
open Go.RowKit
set_option maxRecDepth 10000
noncomputable section
section
variable {P : Program} {E : Env} {F : Tm} {h : Hp} {w w0 : World} {G : Nat → Prop} {a : Act}

theorem rel_int {kn : Bool} {k : IntKind} {n : Int} {v : Value} (h : Rel E (.sc kn (.int k n)) v) : v = .int k n := h.1
theorem rel_scb {kn : Bool} {b : Bool} {v : Value} (h : Rel E (.sc kn (.bool b)) v) : v = .bool b := h.1

theorem indexAddrA_ok {K : AV → Prop} {t : TypeId} {x i : AV} {v iv : Value} (H : (indexAddrA P t x i).holds K) (hx : Rel E x v) (hi : Rel E i iv) :
    ∃ av u, K av ∧ (∀ w, (Instr.indexAt t v iv).run P w = .ok u w) ∧ Rel E av u := by
  unfold indexAddrA at H
  split at H
  · rename_i e kn es d tip k2 ik n hu
    obtain ⟨⟨_, ad, cap, rfl, h1, h2, h3, h4⟩, _⟩ := hx
    obtain rfl := rel_int hi
    split at H
    · rename_i m hm
      cases hb : Nat.beq m es.length
      · rw [hb] at H; exact H.elim
      · rw [hb] at H
        obtain rfl := Nat.eq_of_beq_eq_true hb
        obtain ⟨hc, H⟩ := need_holds H
        obtain ⟨hn0, hn1⟩ : 0 ≤ n ∧ n < (d.len : Int) := of_decide_eq_true hc
        obtain ⟨b, o, rfl, h5⟩ := h4 (by omega)
        refine ⟨_, .pointer (some ⟨b, o + n.toNat * es.length, none⟩), H, fun w => ?_, b, _, rfl, h5 n.toNat (by omega)⟩
        simp [Instr.indexAt, asIntOf, run_underlying hu, hn0, hn1, run_sizeOf hm, addr_add']
    · exact H.elim
  · obtain ⟨hc, _⟩ := need_holds H; cases hc
  · rename_i e kn o m len k2 ik n hu
    obtain ⟨hl, ad, cap, rfl, h1, h2, h3, h4⟩ := hx
    obtain rfl := rel_int hi
    split at H
    · rename_i k hk
      cases hb : Nat.beq k m
      · rw [hb] at H; exact H.elim
      · rw [hb] at H
        obtain rfl := Nat.eq_of_beq_eq_true hb
        obtain ⟨hc, H⟩ := need_holds H
        obtain ⟨hn0, hn1⟩ : 0 ≤ n ∧ n < (len : Int) := of_decide_eq_true hc
        obtain rfl := h4 (by omega)
        refine ⟨_, .pointer (some ⟨E.β o, n.toNat * k, none⟩), H, fun w => ?_, hl, by simp⟩
        simp [Instr.indexAt, asIntOf, run_underlying hu, hn0, hn1, run_sizeOf hk, addr_add']
    · exact H.elim
  · rename_i m e o off ik n hu
    obtain ⟨hl, rfl⟩ := hx
    obtain rfl := rel_int hi
    split at H
    · rename_i k hk
      cases hc : decide (0 ≤ n ∧ n < (m : Int))
      · rw [hc] at H; exact H.elim
      · rw [hc] at H
        obtain ⟨hn0, hn1⟩ := of_decide_eq_true hc
        refine ⟨_, .pointer (some ⟨E.β o, off + n.toNat * k, none⟩), H, fun w => ?_, hl, rfl⟩
        simp [Instr.indexAt, asIntOf, run_underlying hu, Instr.sureAddr, hn0, hn1, run_sizeOf hk, addr_add']
    · exact H.elim
  · rename_i m e kn es d j ik n hu
    obtain ⟨b, o, rfl, h1⟩ := hx
    obtain rfl := rel_int hi
    split at H
    · rename_i k hk
      cases hc : decide (0 ≤ n ∧ n < (m : Int)) && Nat.ble (n.toNat * k) es.length
      · rw [hc] at H; exact H.elim
      · rw [hc] at H
        simp only [Bool.and_eq_true] at hc
        obtain ⟨hn0, hn1⟩ := of_decide_eq_true hc.1
        refine ⟨_, .pointer (some ⟨b, o + n.toNat * k, none⟩), H, fun w => ?_, b, _, rfl, el_drop _ h1⟩
        simp [Instr.indexAt, asIntOf, run_underlying hu, Instr.sureAddr, hn0, hn1, run_sizeOf hk, addr_add']
    · exact H.elim
  · rename_i e o off m len cap ik n hu
    obtain ⟨hl, h1, h2, rfl⟩ := hx
    obtain rfl := rel_int hi
    split at H
    · rename_i k hk
      cases hc : Nat.beq k m && decide (0 ≤ n ∧ n < (len : Int))
      · rw [hc] at H; exact H.elim
      · rw [hc] at H
        simp only [Bool.and_eq_true] at hc
        obtain ⟨hn0, hn1⟩ := of_decide_eq_true hc.2
        refine ⟨_, .pointer (some ⟨E.β o, off + n.toNat * k, none⟩), H, fun w => ?_, hl, rfl⟩
        simp [Instr.indexAt, asIntOf, run_underlying hu, hn0, hn1, run_sizeOf hk, addr_add']
    · exact H.elim
  · rename_i e m len cs tip ik n hu
    obtain ⟨⟨vs, b, o, cap, h1, h2, h3, rfl, h4, h5, hz⟩, _⟩ := hx
    obtain rfl := rel_int hi
    split at H
    · rename_i k hk
      cases hc : Nat.beq k m && decide (0 ≤ n ∧ n < (len : Int))
      · rw [hc] at H; exact H.elim
      · rw [hc] at H
        simp only [Bool.and_eq_true] at hc
        obtain ⟨hn0, hn1⟩ := of_decide_eq_true hc.2
        refine ⟨_, .pointer (some ⟨b, o + n.toNat * k, none⟩), H, fun w => ?_, vs.drop (n.toNat * k), b, _, h1.drop _, (fun u hu => h2 u (List.mem_of_mem_drop hu)), rfl, hz.drop _⟩
        simp [Instr.indexAt, asIntOf, run_underlying hu, hn0, hn1, run_sizeOf hk, addr_add']
    · exact H.elim
  · rename_i m e cs ik n hu
    obtain ⟨vs, b, o, h1, h2, rfl, hz⟩ := hx
    obtain rfl := rel_int hi
    split at H
    · rename_i k hk
      cases hc : decide (0 ≤ n ∧ n < (m : Int))
      · rw [hc] at H; exact H.elim
      · rw [hc] at H
        obtain ⟨hn0, hn1⟩ := of_decide_eq_true hc
        refine ⟨_, .pointer (some ⟨b, o + n.toNat * k, none⟩), H, fun w => ?_, vs.drop (n.toNat * k), b, _, h1.drop _, (fun u hu => h2 u (List.mem_of_mem_drop hu)), rfl, hz.drop _⟩
        simp [Instr.indexAt, asIntOf, run_underlying hu, Instr.sureAddr, hn0, hn1, run_sizeOf hk, addr_add']
    · exact H.elim
  · exact H.elim

theorem asSl_ok {es0 : List Sh} {x : AV} {kn : Bool} {es : List Sh} {d : D} {v : Value} (hs : asSl es0 x = some (kn, es, d)) (hx : Rel E x v) : LF E.Z (.sl es) v d := by
  unfold asSl at hs
  split at hs
  · cases hs; exact hx.1
  · cases hs
    obtain ⟨rfl, _⟩ := hx
    exact ⟨by simp [D.len, D.toL, D.raw], none, 0, rfl, Nat.le_refl _, Nat.zero_le _, fun _ => rfl, fun hn => absurd (by simp [D.len, D.toL, D.raw]) hn⟩
  · cases hs
theorem toL_sub {d : D} {l u : Nat} : (d.sub l u).toL = (d.toL.take u).drop l := by
  have h1 : ((d.toL.take u).drop l).length ≤ maxLen := by
    have := d.len_le; unfold D.len at this
    simp only [List.length_drop, List.length_take]; omega
  show List.take maxLen _ = _
  exact List.take_of_length_le h1
theorem boundA_ok {dflt : Int} {x : Option AV} {v : Option Value} {k : Bool} {n : Int} (hb : boundA dflt x = some (k, n)) (hr : ∀ y, x = some y → ∃ u, v = some u ∧ Rel E y u) (hn : x = none → v = none) :
    (x = none ∧ v = none ∧ n = dflt) ∨ ∃ ik, v = some (.int ik n) := by
  unfold boundA at hb
  split at hb
  · cases hb; exact .inl ⟨rfl, hn rfl, rfl⟩
  · cases hb
    obtain ⟨u, rfl, h1⟩ := hr _ rfl
    exact .inr ⟨_, by rw [rel_int h1]⟩
  · cases hb
theorem run_sliceBound {ik : IntKind} {n : Int} {y : Nat} {c : BoundsCode} (h0 : 0 ≤ n) (h1 : n ≤ y) : (Instr.sliceBound (.int ik n) y c).run P w = .ok n.toNat w := by
  simp [Instr.sliceBound, asIntOf, h0, h1]
theorem sliceB_ok {K : AV → Prop} {t : TypeId} {x : AV} {v : Value} {lo hi : Option Operand} {mx : Option Operand} (hT : RelT E F a) (H : (sliceB P t x (lo.map (opnd F)) (hi.map (opnd F)) (mx.map (opnd F))).holds K) (hx : Rel E x v) :
    ∃ av u, K av ∧ (∀ w, (Instr.sliceAt t v (lo.map a.eval) (hi.map a.eval) (mx.map a.eval)).run P w = .ok u w) ∧ Rel E av u := by
  unfold sliceB at H
  split at H
  · rename_i e hel
    have hu : P.underlying t = some (.slice e) := by
      unfold elemA at hel
      split at hel
      · cases hel; assumption
      · cases hel
    split at H
    · rename_i kn es d n hs hn
      split at H
      · rename_i k1 l k2 u k3 m hb1 hb2 hb3
        cases hb : Nat.beq n es.length && ((mx.map (opnd F)).isNone || (hi.map (opnd F)).isSome)
        · rw [hb] at H; exact H.elim
        · rw [hb] at H
          simp only [Bool.and_eq_true] at hb
          obtain rfl := Nat.eq_of_beq_eq_true hb.1
          have hmh : mx = none ∨ ∃ o, hi = some o := by
            have := hb.2
            cases mx with
            | none => exact .inl rfl
            | some _ => cases hi with
              | none => simp at this
              | some o => exact .inr ⟨o, rfl⟩
          obtain ⟨hc, H⟩ := need_holds H
          obtain ⟨h0, h1, h2', h2⟩ : 0 ≤ l ∧ l ≤ u ∧ u ≤ m ∧ m ≤ (d.len : Int) := of_decide_eq_true hc
          obtain ⟨g0, ad, cap, rfl, g1, g2, g3, g4⟩ := asSl_ok hs hx
          have rl : ∀ z y, (z : Option Operand).map (opnd F) = some y → ∃ u, z.map a.eval = some u ∧ Rel E y u := fun z y hy => by
            cases z with
            | none => cases hy
            | some o => cases hy; exact ⟨_, rfl, rel_opnd hT o⟩
          -- the greatest bound
          obtain ⟨M, hM, hMu, hMc⟩ : ∃ M : Nat, (∀ w c, ((match mx.map a.eval with | some v => Instr.sliceBound v cap c | none => pure cap) : Sem Nat).run P w = .ok M w) ∧ u ≤ M ∧ M ≤ cap := by
            rcases boundA_ok hb3 (rl mx) (fun hh => by cases mx <;> simp_all) with ⟨_, hv, rfl⟩ | ⟨ik, hv⟩
            · exact ⟨cap, fun w c => by rw [hv]; simp, by omega, Nat.le_refl _⟩
            · exact ⟨m.toNat, fun w c => by rw [hv]; exact run_sliceBound (by omega) (by omega), by omega, by omega⟩
          have hhi : ∀ w c, ((match hi.map a.eval with | some v => Instr.sliceBound v M c | none => pure d.len) : Sem Nat).run P w = .ok u.toNat w := fun w c => by
            rcases boundA_ok hb2 (rl hi) (fun hh => by cases hi <;> simp_all) with ⟨_, hv, rfl⟩ | ⟨ik, hv⟩
            · rw [hv]; simp
            · rw [hv]; exact run_sliceBound (by omega) (by omega)
          have hlo : ∀ w c, ((match lo.map a.eval with | some v => Instr.sliceBound v u.toNat c | none => pure 0) : Sem Nat).run P w = .ok l.toNat w := fun w c => by
            rcases boundA_ok hb1 (rl lo) (fun hh => by cases lo <;> simp_all) with ⟨_, hv, rfl⟩ | ⟨ik, hv⟩
            · rw [hv]; simp
            · rw [hv]; exact run_sliceBound (by omega) (by omega)
          have hlen : (d.sub l.toNat u.toNat).len = u.toNat - l.toNat := by
            have h5 : u.toNat ≤ d.toL.length := by unfold D.len at h2; omega
            unfold D.len; rw [toL_sub]; simp only [List.length_drop, List.length_take]; omega
          have key : (∀ w, (Instr.sliceAt t (.slice ad d.len cap) (lo.map a.eval) (hi.map a.eval) (mx.map a.eval)).run P w = .ok (.slice (if M = l.toNat then ad else ad.map (·.add (l.toNat * es.length))) (u.toNat - l.toNat) (M - l.toNat)) w) ∧ Rel E (.sl (kn && k1 && k2) es (d.sub l.toNat u.toNat) none) (.slice (if M = l.toNat then ad else ad.map (·.add (l.toNat * es.length))) (u.toNat - l.toNat) (M - l.toNat)) := by
            refine ⟨fun w => ?_, ⟨by rw [hlen]; exact Nat.le_trans (Nat.mul_le_mul_right _ (by omega)) g0, _, _, by rw [hlen], by omega, by omega, ?_, ?_⟩, trivial⟩
            · have hsb : (Instr.sliceBounds true d.len cap (lo.map a.eval) (hi.map a.eval) (mx.map a.eval)).run P w = .ok (l.toNat, u.toNat, M) w := by
                unfold Instr.sliceBounds
                have e1 := hhi w .sliceAcap
                have e1' := hhi w .slice3B
                have e2 := hlo w .sliceB
                have e2' := hlo w .slice3C
                have e3 := hM w .slice3Acap
                rcases hmh with rfl | ⟨o, rfl⟩
                · cases lo <;> cases hi <;> simp_all
                · cases lo <;> cases mx <;> simp_all
              unfold Instr.sliceAt
              simp only [Sem.run_bind, run_underlying hu, Result.andThen_ok, Instr.slice, hsb, run_sizeOf hn]
              rfl
            · intro hh
              split at hh
              · have := g3 hh; omega
              · cases ad with
                | none => have := g3 rfl; omega
                | some _ => cases hh
            · intro hne
              rw [hlen] at hne
              obtain ⟨b, o, rfl, g5⟩ := g4 (by omega)
              rw [if_neg (by omega)]
              refine ⟨b, o + l.toNat * es.length, by simp [addr_add'], fun i hi => ?_⟩
              rw [hlen] at hi
              have := g5 (l.toNat + i) (by omega)
              rw [show o + l.toNat * es.length + i * es.length = o + (l.toNat + i) * es.length by rw [Nat.add_mul, Nat.add_assoc]]
              have hg : (d.sub l.toNat u.toNat).get i = d.get (l.toNat + i) := by
                unfold D.get
                rw [toL_sub, List.getD_eq_getElem?_getD, List.getD_eq_getElem?_getD, List.getElem?_drop, List.getElem?_take_of_lt (by omega)]
              rw [hg]; exact this
          cases hcc : (bif kn && k1 && k2 then decide (l = u) && !(Nat.beq d.len 0) else false)
          · rw [hcc] at H
            exact ⟨_, _, H, key.1, key.2⟩
          · rw [hcc] at H
            have hlu : l = u ∧ d.len ≠ 0 := by
              cases hk : kn && k1 && k2
              · rw [hk] at hcc; cases hcc
              · rw [hk] at hcc
                simp only [cond_true, Bool.and_eq_true, Bool.not_eq_true'] at hcc
                exact ⟨of_decide_eq_true hcc.1, fun e => by rw [e] at hcc; exact absurd hcc.2 (by decide)⟩
            obtain ⟨b, o, rfl, _⟩ := g4 hlu.2
            refine ⟨_, _, H, key.1, ?_⟩
            by_cases hM' : M = l.toNat
            · exact ⟨⟨[], b, o, M - l.toNat, rfl, by simp, by simp, by rw [if_pos hM', show u.toNat - l.toNat = 0 by omega], Nat.zero_le _, by omega, fun i x hx => by simp at hx⟩, trivial⟩
            · exact ⟨⟨[], b, o + l.toNat * es.length, M - l.toNat, rfl, by simp, by simp, by rw [if_neg hM', show u.toNat - l.toNat = 0 by omega]; simp [addr_add'], Nat.zero_le _, by omega, fun i x hx => by simp at hx⟩, trivial⟩
      · exact H.elim
    · exact H.elim
  · split at H
    · rename_i kn sv hu hmx
      obtain ⟨rfl, _⟩ := hx
      split at H
      · rename_i k1 l k2 u hb1 hb2
        obtain ⟨hc, H⟩ := need_holds H
        obtain ⟨h0, h1, h2⟩ : 0 ≤ l ∧ l ≤ u ∧ u ≤ (sv.size : Int) := of_decide_eq_true hc
        have hmx' : mx = none := by cases mx <;> simp_all
        subst hmx'
        have rl : ∀ z y, (z : Option Operand).map (opnd F) = some y → ∃ u, z.map a.eval = some u ∧ Rel E y u := fun z y hy => by
          cases z with
          | none => cases hy
          | some o => cases hy; exact ⟨_, rfl, rel_opnd hT o⟩
        have hhi : ∀ w c, ((match hi.map a.eval with | some v => Instr.sliceBound v sv.size c | none => pure sv.size) : Sem Nat).run P w = .ok u.toNat w := fun w c => by
          rcases boundA_ok hb2 (rl hi) (fun hh => by cases hi <;> simp_all) with ⟨_, hv, rfl⟩ | ⟨ik, hv⟩
          · rw [hv]; simp
          · rw [hv]; exact run_sliceBound (by omega) (by omega)
        have hlo : ∀ w c, ((match lo.map a.eval with | some v => Instr.sliceBound v u.toNat c | none => pure 0) : Sem Nat).run P w = .ok l.toNat w := fun w c => by
          rcases boundA_ok hb1 (rl lo) (fun hh => by cases lo <;> simp_all) with ⟨_, hv, rfl⟩ | ⟨ik, hv⟩
          · rw [hv]; simp
          · rw [hv]; exact run_sliceBound (by omega) (by omega)
        refine ⟨_, .string (sv.extract l.toNat u.toNat), H, fun w => ?_, rfl, rfl⟩
        have hsb : (Instr.sliceBounds false sv.size sv.size (lo.map a.eval) (hi.map a.eval) none).run P w = .ok (l.toNat, u.toNat, sv.size) w := by
          unfold Instr.sliceBounds
          have e1 := hhi w .sliceAlen
          have e2 := hlo w .sliceB
          cases lo <;> cases hi <;> simp_all
        unfold Instr.sliceAt
        simp only [Sem.run_bind, run_underlying hu, Result.andThen_ok, Instr.slice, Option.map_none, Option.isSome_none, Bool.false_eq_true, if_false, hsb]
        rfl
      · exact H.elim
    · exact H.elim

/-- known bounds -/
theorem boundsV_ok (hT : RelT E F a) {len m l u q : Nat} {lo hi mx : Option Operand} (H : boundsV len m (lo.map (opnd F)) (hi.map (opnd F)) (mx.map (opnd F)) = some (l, u, q)) (isS : Bool) :
    (∀ w, (Instr.sliceBounds isS len m (lo.map a.eval) (hi.map a.eval) (mx.map a.eval)).run P w = .ok (l, u, q) w) ∧ l ≤ u ∧ u ≤ q ∧ q ≤ m ∧ (mx = none → q = m) := by
  unfold boundsV at H
  split at H
  · rename_i l' u' q' hb1 hb2 hb3
    cases hb : decide (0 ≤ l' ∧ l' ≤ u' ∧ u' ≤ q' ∧ q' ≤ (m : Int)) && ((mx.map (opnd F)).isNone || (hi.map (opnd F)).isSome)
    · rw [hb] at H; cases H
    rw [hb] at H
    cases H
    simp only [Bool.and_eq_true] at hb
    obtain ⟨h0, h1, h2, h3⟩ := of_decide_eq_true hb.1
    have hmh : mx = none ∨ ∃ o, hi = some o := by
      have := hb.2
      cases mx with
      | none => exact .inl rfl
      | some _ => cases hi with
        | none => simp at this
        | some o => exact .inr ⟨o, rfl⟩
    have rl : ∀ z y, (z : Option Operand).map (opnd F) = some y → ∃ u, z.map a.eval = some u ∧ Rel E y u := fun z y hy => by
      cases z with
      | none => cases hy
      | some o => cases hy; exact ⟨_, rfl, rel_opnd hT o⟩
    have hM : ∀ w c, ((match mx.map a.eval with | some v => Instr.sliceBound v m c | none => pure m) : Sem Nat).run P w = .ok q'.toNat w := fun w c => by
      rcases boundA_ok hb3 (rl mx) (fun hh => by cases mx <;> simp_all) with ⟨_, hv, rfl⟩ | ⟨ik, hv⟩
      · rw [hv]; simp
      · rw [hv]; exact run_sliceBound (by omega) (by omega)
    have hhi : ∀ w c, ((match hi.map a.eval with | some v => Instr.sliceBound v q'.toNat c | none => pure len) : Sem Nat).run P w = .ok u'.toNat w := fun w c => by
      rcases boundA_ok hb2 (rl hi) (fun hh => by cases hi <;> simp_all) with ⟨_, hv, rfl⟩ | ⟨ik, hv⟩
      · rw [hv]; simp
      · rw [hv]; exact run_sliceBound (by omega) (by omega)
    have hlo : ∀ w c, ((match lo.map a.eval with | some v => Instr.sliceBound v u'.toNat c | none => pure 0) : Sem Nat).run P w = .ok l'.toNat w := fun w c => by
      rcases boundA_ok hb1 (rl lo) (fun hh => by cases lo <;> simp_all) with ⟨_, hv, rfl⟩ | ⟨ik, hv⟩
      · rw [hv]; simp
      · rw [hv]; exact run_sliceBound (by omega) (by omega)
    refine ⟨fun w => ?_, by omega, by omega, by omega, fun hn => ?_⟩
    · unfold Instr.sliceBounds
      have e1 := hhi w .sliceAcap
      have e1a := hhi w .sliceAlen
      have e1' := hhi w .slice3B
      have e2 := hlo w .sliceB
      have e2' := hlo w .slice3C
      have e3 := hM w .slice3Acap
      have e3' := hM w .slice3Alen
      rcases hmh with rfl | ⟨o, rfl⟩
      · cases isS <;> cases lo <;> cases hi <;> simp_all
      · cases isS <;> cases lo <;> cases mx <;> simp_all
    · rcases boundA_ok hb3 (rl mx) (fun hh => by cases mx <;> simp_all) with ⟨_, hv, rfl⟩ | ⟨ik, hv⟩
      · simp
      · rw [hn] at hv; cases hv
  · cases H
theorem boundsC_ok (hT : RelT E F a) {len l u q cap : Nat} {lo hi : Option Operand} (H : boundsV len len (lo.map (opnd F)) (hi.map (opnd F)) none = some (l, u, q)) (hcap : len ≤ cap) :
    (∀ w, (Instr.sliceBounds true len cap (lo.map a.eval) (hi.map a.eval) none).run P w = .ok (l, u, cap) w) ∧ l ≤ u ∧ u ≤ len := by
  unfold boundsV at H
  split at H
  · rename_i l' u' q' hb1 hb2 hb3
    cases hb : decide (0 ≤ l' ∧ l' ≤ u' ∧ u' ≤ q' ∧ q' ≤ (len : Int)) && ((none : Option AV).isNone || (hi.map (opnd F)).isSome)
    · rw [hb] at H; cases H
    rw [hb] at H
    cases H
    simp only [Bool.and_eq_true] at hb
    obtain ⟨h0, h1, h2, h3⟩ := of_decide_eq_true hb.1
    have rl : ∀ z y, (z : Option Operand).map (opnd F) = some y → ∃ u, z.map a.eval = some u ∧ Rel E y u := fun z y hy => by
      cases z with
      | none => cases hy
      | some o => cases hy; exact ⟨_, rfl, rel_opnd hT o⟩
    have hhi : ∀ w c, ((match hi.map a.eval with | some v => Instr.sliceBound v cap c | none => pure len) : Sem Nat).run P w = .ok u'.toNat w := fun w c => by
      rcases boundA_ok hb2 (rl hi) (fun hh => by cases hi <;> simp_all) with ⟨_, hv, rfl⟩ | ⟨ik, hv⟩
      · rw [hv]; simp
      · rw [hv]; exact run_sliceBound (by omega) (by omega)
    have hlo : ∀ w c, ((match lo.map a.eval with | some v => Instr.sliceBound v u'.toNat c | none => pure 0) : Sem Nat).run P w = .ok l'.toNat w := fun w c => by
      rcases boundA_ok hb1 (rl lo) (fun hh => by cases lo <;> simp_all) with ⟨_, hv, rfl⟩ | ⟨ik, hv⟩
      · rw [hv]; simp
      · rw [hv]; exact run_sliceBound (by omega) (by omega)
    refine ⟨fun w => ?_, by omega, by omega⟩
    unfold Instr.sliceBounds
    have e1 := hhi w .sliceAcap
    have e2 := hlo w .sliceB
    cases lo <;> cases hi <;> simp_all
  · cases H
theorem cutV_ok {K : AV → Prop} {o off n l u q : Nat} (H : (cutV o off n (some (l, u, q))).holds K) (ho : E.live o) (h1 : l ≤ u) (h2 : u ≤ q) (h3 : q ≤ maxLen) :
    ∃ av, K av ∧ Rel E av (.slice (some (if q = l then (⟨E.β o, off, none⟩ : Addr) else (⟨E.β o, off, none⟩ : Addr).add (l * n))) (u - l) (q - l)) := by
  refine ⟨_, H, ho, by omega, by omega, ?_⟩
  by_cases hq : q = l
  · subst hq; simp
  · have : Nat.beq q l = false := by cases hb : Nat.beq q l; rfl; exact absurd (Nat.eq_of_beq_eq_true hb) hq
    rw [if_neg hq, this, addr_add']; rfl
theorem sliceV_ok {K : AV → Prop} {t : TypeId} {x : AV} {v : Value} {lo hi : Option Operand} {mx : Option Operand} (hT : RelT E F a) (H : (sliceV P t x (lo.map (opnd F)) (hi.map (opnd F)) (mx.map (opnd F))).holds K) (hx : Rel E x v) :
    ∃ av u, K av ∧ (∀ w, (Instr.sliceAt t v (lo.map a.eval) (hi.map a.eval) (mx.map a.eval)).run P w = .ok u w) ∧ Rel E av u := by
  unfold sliceV at H
  split at H
  · rename_i e o off n len cap hu
    obtain ⟨hl, g1, g2, rfl⟩ := hx
    split at H
    · rename_i k hk
      cases hb : Nat.beq k n
      · rw [hb] at H; exact H.elim
      rw [hb] at H
      obtain rfl := Nat.eq_of_beq_eq_true hb
      simp only [cond_true] at H
      cases hbv : boundsV len cap (lo.map (opnd F)) (hi.map (opnd F)) (mx.map (opnd F)) with
      | none => rw [hbv] at H; exact H.elim
      | some p =>
        obtain ⟨l, u, q⟩ := p
        rw [hbv] at H
        obtain ⟨hB, b1, b2, b3, _⟩ := boundsV_ok (P := P) hT hbv true
        obtain ⟨av, h1, h2⟩ := cutV_ok H hl b1 b2 (by omega)
        refine ⟨av, _, h1, fun w => ?_, h2⟩
        unfold Instr.sliceAt
        simp only [Sem.run_bind, run_underlying hu, Result.andThen_ok, Instr.slice, hB, run_sizeOf hk, Sem.run_pure, Option.map_some]
        split <;> rfl
    · exact H.elim
  · rename_i m e o off hu
    obtain ⟨hl, rfl⟩ := hx
    split at H
    · rename_i k hk
      cases hb : Nat.ble m maxLen
      · rw [hb] at H; exact H.elim
      rw [hb] at H
      have hm := Nat.le_of_ble_eq_true hb
      simp only [cond_true] at H
      cases hbv : boundsV m m (lo.map (opnd F)) (hi.map (opnd F)) (mx.map (opnd F)) with
      | none => rw [hbv] at H; exact H.elim
      | some p =>
        obtain ⟨l, u, q⟩ := p
        rw [hbv] at H
        obtain ⟨hB, b1, b2, b3, _⟩ := boundsV_ok (P := P) hT hbv false
        obtain ⟨av, h1, h2⟩ := cutV_ok H hl b1 b2 (by omega)
        refine ⟨av, _, h1, fun w => ?_, h2⟩
        unfold Instr.sliceAt
        simp [run_underlying hu, hB, run_sizeOf hk, Instr.sureAddr]
    · exact H.elim
  · rename_i e n len cs tip hu
    obtain ⟨⟨vs, b, o, cap, r1, r2, r3, rfl, g1, g2, hz⟩, _⟩ := hx
    split at H
    · rename_i k hk hmx
      have hmx' : mx = none := by cases mx <;> simp_all
      subst hmx'
      split at H
      · rename_i l u q hbv
        cases hb : Nat.beq k n
        · rw [hb] at H; exact H.elim
        rw [hb] at H
        obtain rfl := Nat.eq_of_beq_eq_true hb
        obtain ⟨hB, b1, b2⟩ := boundsC_ok (P := P) (cap := cap) hT hbv g1
        simp only [cond_true] at H
        have hvl : vs.length = len * k := r1.length.symm.trans r3
        have hul : u * k ≤ len * k := Nat.mul_le_mul_right _ b2
        have hlu : l * k ≤ u * k := Nat.mul_le_mul_right _ b1
        have hlen : ((vs.drop (l * k)).take ((u - l) * k)).length = (u - l) * k := by rw [List.length_take, List.length_drop, hvl, Nat.sub_mul]; omega
        have hcl : ((cs.drop (l * k)).take ((u - l) * k)).length = (u - l) * k := by rw [List.length_take, List.length_drop, r3, Nat.sub_mul]; omega
        by_cases hcap : cap = l
        · have hul0 : u - l = 0 := by omega
          refine ⟨_, .slice (some ⟨b, o, none⟩) (u - l) (cap - l), H, fun w => ?_, ⟨(vs.drop (l * k)).take ((u - l) * k), b, o, _, (r1.drop _).take _, fun u hu => r2 u (List.mem_of_mem_drop (List.mem_of_mem_take hu)), hcl, rfl, by omega, by omega, ?_⟩, trivial⟩
          · unfold Instr.sliceAt
            simp only [Sem.run_bind, run_underlying hu, Result.andThen_ok, Instr.slice, Option.map_none, hB, run_sizeOf hk, Sem.run_pure]
            rw [if_pos hcap]
          · intro i x hx
            rw [List.eq_nil_of_length_eq_zero (l := (vs.drop (l * k)).take ((u - l) * k)) (by rw [hlen, hul0, Nat.zero_mul])] at hx
            simp at hx
        · refine ⟨_, .slice (some ⟨b, o + l * k, none⟩) (u - l) (cap - l), H, fun w => ?_, ⟨(vs.drop (l * k)).take ((u - l) * k), b, o + l * k, _, (r1.drop _).take _, fun u hu => r2 u (List.mem_of_mem_drop (List.mem_of_mem_take hu)), hcl, rfl, by omega, by omega, (hz.drop _).take _⟩, trivial⟩
          unfold Instr.sliceAt
          simp only [Sem.run_bind, run_underlying hu, Result.andThen_ok, Instr.slice, Option.map_none, hB, run_sizeOf hk, Sem.run_pure, if_neg hcap, Option.map_some, addr_add']
      · exact H.elim
    · exact H.elim
  · exact H.elim
theorem sliceA_ok {K : AV → Prop} {t : TypeId} {x : AV} {v : Value} {lo hi : Option Operand} {mx : Option Operand} (hT : RelT E F a) (H : (sliceA P t x (lo.map (opnd F)) (hi.map (opnd F)) (mx.map (opnd F))).holds K) (hx : Rel E x v) :
    ∃ av u, K av ∧ (∀ w, (Instr.sliceAt t v (lo.map a.eval) (hi.map a.eval) (mx.map a.eval)).run P w = .ok u w) ∧ Rel E av u := by
  unfold sliceA at H
  cases hv : isV x
  · rw [hv] at H; exact sliceB_ok hT H hx
  · rw [hv] at H; exact sliceV_ok hT H hx
theorem lenA_ok {K : AV → Prop} {t ty : TypeId} {x : AV} {v : Value} (H : (lenA P t x).holds K) (hx : Rel E x v) :
    ∃ av u, K av ∧ (∀ w, (Builtin.len_ #[t] ty #[v]).run P w = .ok u w) ∧ Rel E av u := by
  unfold lenA at H
  split at H
  · rename_i hu
    obtain ⟨⟨_, ad, cap, rfl, _⟩, _⟩ := hx
    exact ⟨_, _, H, fun w => by simp [Builtin.len_, run_underlying hu]; rfl, rfl, rfl⟩
  · rename_i hu
    obtain ⟨rfl, _⟩ := hx
    exact ⟨_, _, H, fun w => by simp [Builtin.len_, run_underlying hu]; rfl, rfl, rfl⟩
  · rename_i hu
    obtain ⟨_, ad, cap, rfl, _⟩ := hx
    exact ⟨_, _, H, fun w => by simp [Builtin.len_, run_underlying hu]; rfl, rfl, rfl⟩
  · rename_i hu
    obtain ⟨_, _, _, rfl⟩ := hx
    exact ⟨_, _, H, fun w => by simp [Builtin.len_, run_underlying hu]; rfl, rfl, rfl⟩
  · rename_i hu
    obtain ⟨⟨_, _, _, _, _, _, _, rfl, _⟩, _⟩ := hx
    exact ⟨_, _, H, fun w => by simp [Builtin.len_, run_underlying hu]; rfl, rfl, rfl⟩
  · rename_i hu
    obtain ⟨rfl, _⟩ := hx
    exact ⟨_, _, H, fun w => by simp [Builtin.len_, run_underlying hu]; rfl, rfl, rfl⟩
  · rename_i hu
    exact ⟨_, _, H, fun w => by simp [Builtin.len_, run_underlying hu]; rfl, rfl, rfl⟩
  · exact H.elim

theorem intOp_ok {K : AV → Prop} {op : BinOp} {k : IntKind} {kn : Bool} {x y : Int} (t : TypeId) (hsh : op ≠ .shl ∧ op ≠ .shr) (H : (intOp op k kn x y).holds K) :
    ∃ av u, K av ∧ (∀ w, (binOp op t (.int k x) (.int k y)).run P w = .ok u w) ∧ Rel E av u := by
  cases op <;> simp only [intOp] at H
  case shl => exact absurd rfl hsh.1
  case shr => exact absurd rfl hsh.2
  case quo =>
    obtain ⟨hc, H⟩ := need_holds H
    have hy : ¬ y = 0 := by simpa using hc
    exact ⟨_, _, H, fun w => by simp [binOp, Op.intDiv, hy], rfl, rfl⟩
  case rem =>
    obtain ⟨hc, H⟩ := need_holds H
    have hy : ¬ y = 0 := by simpa using hc
    exact ⟨_, _, H, fun w => by simp [binOp, Op.intDiv, hy], rfl, rfl⟩
  all_goals first
    | exact H.elim
    | exact ⟨_, _, H, fun w => by simp [binOp, Op.intArith, Op.intBits, Op.intCmp]; rfl, rfl, rfl⟩
    | exact ⟨_, _, H, fun w => by simp [binOp, Op.intArith, Op.intBits, Op.intCmp], rfl, rfl⟩
theorem strOp_ok {K : AV → Prop} {op : BinOp} {kn : Bool} {x y : ByteArray} (t : TypeId) (H : (strOp op kn x y).holds K) :
    ∃ av u, K av ∧ (∀ w, (binOp op t (.string x) (.string y)).run P w = .ok u w) ∧ Rel E av u := by
  cases op <;> simp only [strOp] at H
  case add =>
    obtain ⟨hc, H⟩ := need_holds H
    have hc' : x.size + y.size ≤ maxLen := of_decide_eq_true hc
    refine ⟨_, _, H, fun w => ?_, rfl, rfl⟩
    have h0 : IntKind.i64.max = 9223372036854775807 := by decide
    have : ¬ (((x.size + y.size : Nat) : Int) > IntKind.i64.max) := by
      rw [h0]; unfold maxLen at hc'; omega
    simp only [binOp, Op.stringOp]
    rw [if_neg this]
    rfl
  all_goals first
    | exact H.elim
    | exact ⟨_, _, H, fun w => by simp [binOp, Op.stringOp]; rfl, rfl, rfl⟩
    | exact ⟨_, _, H, fun w => by simp [binOp, Op.stringOp], rfl, rfl⟩

theorem run_guard_sc {op : BinOp} {t : TypeId} {x y : Operand} {p q : Value} (hp : (∀ cs, p ≠ .agg cs) ∧ p ≠ .nilIface) : (eqGuard op t x y p q).run P w = .ok () w := by
  unfold eqGuard
  cases op <;> simp
  all_goals
    cases p <;> first
      | exact absurd rfl (hp.1 _)
      | exact absurd rfl hp.2
      | (cases q <;> simp)
theorem run_equal_bool {t : TypeId} (hu : P.underlying t = some .bool) (x y : Bool) : (Op.equal t (.bool x) (.bool y)).run P w = .ok (x == y) w := by
  unfold Op.equal Op.maxDepth
  rw [Op.equalIn]
  simp [run_underlying hu]
theorem run_equal_nilf {t : TypeId} {p r : Array TypeId} {b : Bool} (hu : P.underlying t = some (.func p r b)) : (Op.equal t .nilFunc .nilFunc).run P w = .ok true w := by
  unfold Op.equal Op.maxDepth
  rw [Op.equalIn]
  simp [run_underlying hu]
theorem run_equal_fn {t : TypeId} {p r : Array TypeId} {b : Bool} (hu : P.underlying t = some (.func p r b)) (f : Fn) (x y : Array Value) : (Op.equal t (.func f x y) .nilFunc).run P w = .ok false w := by
  unfold Op.equal Op.maxDepth
  rw [Op.equalIn]
  simp [run_underlying hu]
theorem run_equal_slice {t e : TypeId} (hu : P.underlying t = some (.slice e)) (ad : Option Addr) (n c : Nat) : (Op.equal t (.slice ad n c) (.slice none 0 0)).run P w = .ok ad.isNone w := by
  unfold Op.equal Op.maxDepth
  rw [Op.equalIn]
  cases ad <;> simp [run_underlying hu]
theorem run_equal_ptr {t e : TypeId} (hu : P.underlying t = some (.pointer e)) (p : Option Addr) : (Op.equal t (.pointer p) (.pointer none)).run P w = .ok p.isNone w := by
  unfold Op.equal Op.maxDepth
  rw [Op.equalIn]
  cases p <;> simp [run_underlying hu]
theorem run_equal_map {t k e : TypeId} (hu : P.underlying t = some (.map k e)) (p : Option Nat) : (Op.equal t (.map p) (.map none)).run P w = .ok p.isNone w := by
  unfold Op.equal Op.maxDepth
  rw [Op.equalIn]
  cases p <;> simp [run_underlying hu]
theorem nilP_ok {x : AV} {v : Value} {b : Bool} (h : nilP x = some b) (hx : Rel E x v) : ∃ p, v = .pointer p ∧ p.isNone = b := by
  unfold nilP at h
  split at h
  · cases h; obtain ⟨rfl, _⟩ := hx; exact ⟨none, rfl, rfl⟩
  · cases h; obtain ⟨_, rfl⟩ := hx; exact ⟨_, rfl, rfl⟩
  · cases h; obtain ⟨_, _, rfl, _⟩ := hx; exact ⟨_, rfl, rfl⟩
  · cases h; obtain ⟨_, _, _, _, _, rfl, _⟩ := hx; exact ⟨_, rfl, rfl⟩
  · cases h; obtain ⟨_, rfl⟩ := hx; exact ⟨_, rfl, rfl⟩
  · cases h
theorem nilM_ok {x : AV} {v : Value} {b : Bool} (h : nilM x = some b) (hx : Rel E x v) : ∃ p, v = .map p ∧ p.isNone = b := by
  unfold nilM at h
  split at h
  · cases h; obtain ⟨rfl, _⟩ := hx; exact ⟨none, rfl, rfl⟩
  · cases h; obtain ⟨_, rfl⟩ := hx; exact ⟨_, rfl, rfl⟩
  · cases h
theorem nilV_ok {x : AV} {v : Value} {b : Bool} (h : nilV x = some b) (hx : Rel E x v) : ∃ ad n c, v = .slice ad n c ∧ ad.isNone = b := by
  unfold nilV at h
  split at h
  · cases h; obtain ⟨_, _, _, rfl⟩ := hx; exact ⟨_, _, _, rfl, rfl⟩
  · cases h
    obtain ⟨⟨_, _, _, _, _, _, _, rfl, _⟩, _⟩ := hx
    exact ⟨_, _, _, rfl, rfl⟩
  · cases h
    obtain ⟨_, ad, cap, rfl, _, _, _, h5⟩ := hx
    obtain rfl := h5 (Nat.succ_ne_zero _)
    exact ⟨_, _, _, rfl, rfl⟩
  · cases h
theorem nilB_ok {t : TypeId} {x y : AV} {vx vy : Value} {b : Bool} (h : nilB P t x y = some b) (hx : Rel E x vx) (hy : Rel E y vy) : ((∀ cs, vx ≠ .agg cs) ∧ vx ≠ .nilIface) ∧ (∀ w, (binOp .eql t vx vy).run P w = .ok (.bool b) w) ∧ ∀ w, (binOp .neq t vx vy).run P w = .ok (.bool (!b)) w := by
  unfold nilB at h
  split at h
  · rename_i hu
    obtain ⟨p, rfl, rfl⟩ := nilP_ok h hx
    obtain ⟨rfl, _⟩ := hy
    exact ⟨by simp, fun w => by simp [binOp, run_equal_ptr hu], fun w => by simp [binOp, run_equal_ptr hu]⟩
  · rename_i hu
    obtain ⟨p, rfl, rfl⟩ := nilM_ok h hx
    obtain ⟨rfl, _⟩ := hy
    exact ⟨by simp, fun w => by simp [binOp, run_equal_map hu], fun w => by simp [binOp, run_equal_map hu]⟩
  · rename_i hu
    obtain ⟨ad, n, c, rfl, rfl⟩ := nilV_ok h hx
    obtain ⟨rfl, _⟩ := hy
    exact ⟨by simp, fun w => by simp [binOp, run_equal_slice hu], fun w => by simp [binOp, run_equal_slice hu]⟩
  · cases h
/-! What is the same. -/
theorem isAgg_row {t : TypeId} {td : TypeDesc} (hu : P.underlying t = some td) (W : World) : (isAgg t).run P W = .ok td.isRow W := by
  unfold isAgg
  simp only [Sem.run_bind, run_underlying hu, Result.andThen_ok]
  cases td <;> rfl
theorem partA_ok {t : TypeId} {cs : List AV} {off : Nat} {av : AV} {vs : Array Value} (H : partA P t cs off = some av) (hr : RelL E cs vs.toList) (h1 : ∀ u ∈ vs.toList, u.oneCell' = true) : ∃ v, Rel E av v ∧ ∀ w, (part t vs off).run P w = .ok v w := by
  unfold partA at H
  split at H
  · rename_i td n hu hn
    cases hrow : td.isRow
    · rw [hrow] at H
      obtain ⟨v, hv, hrel⟩ := hr.get H
      refine ⟨v, hrel, fun w => ?_⟩
      have hv' : vs[off]? = some v := by simpa using hv
      simp [part, isAgg_row hu, hrow, hv']
    · rw [hrow] at H
      cases H
      refine ⟨.agg (vs.extract off (off + n)), ⟨_, rfl, ?_, fun u hu' => ?_⟩, fun w => ?_⟩
      · have : (vs.extract off (off + n)).toList = (vs.toList.drop off).take n := by simp [List.take_drop]
        rw [this]; exact (hr.drop off).take n
      · have : (vs.extract off (off + n)).toList = (vs.toList.drop off).take n := by simp [List.take_drop]
        rw [this] at hu'
        exact h1 u (List.mem_of_mem_drop (List.mem_of_mem_take hu'))
      · simp [part, isAgg_row hu, hrow, run_sizeOf hn]
  · cases H
theorem bothB_snd (a b : Bool × Bool) : (bothB a b).2 = (a.2 && b.2) := by
  obtain ⟨a1, a2⟩ := a
  cases a1 <;> cases a2 <;> simp [bothB]
def EqAt (P : Program) (E : Env) (D : Nat) (eq : TypeId → AV → AV → Option (Bool × Bool)) : Prop := ∀ t x y r v u, eq t x y = some r → Rel E x v → Rel E y u → ∀ w, (Op.equalIn D t v u).run P w = .ok r.2 w
theorem eqFs_ok {D : Nat} {eq : TypeId → AV → AV → Option (Bool × Bool)} (he : EqAt P E D eq) {xs ys : List AV} {vs us : Array Value} (hx : RelL E xs vs.toList) (hy : RelL E ys us.toList) (hx1 : ∀ u ∈ vs.toList, u.oneCell' = true) (hy1 : ∀ u ∈ us.toList, u.oneCell' = true) (w : World) :
    ∀ (fs : List Field) (r : Bool × Bool), eqFs P eq xs ys fs = some r → (Op.eqFields D vs us fs).run P w = .ok r.2 w
  | [], r, H => by cases H; simp [Op.eqFields]
  | f :: fs, r, H => by
    simp only [eqFs] at H
    cases hn : decide (f.name = "_")
    · rw [hn] at H
      simp only [cond_false] at H
      split at H
      · rename_i a b ha hb
        split at H
        · rename_i p q hp hq
          cases H
          obtain ⟨v, hv, hvr⟩ := partA_ok ha hx hx1
          obtain ⟨u, hu, hur⟩ := partA_ok hb hy hy1
          have h1 := he f.type a b p v u hp hv hu w
          have h2 := eqFs_ok he hx hy hx1 hy1 w fs q hq
          rw [Op.eqFields, if_pos (of_decide_eq_false hn)]
          simp only [Sem.run_bind, hvr, hur, h1, Result.andThen_ok, bothB_snd]
          cases p.2 <;> simp [h2]
        · cases H
      · cases H
    · rw [hn] at H; cases H
theorem eqIs_ok {D : Nat} {e : TypeId} {eq : AV → AV → Option (Bool × Bool)} (he : ∀ x y r v u, eq x y = some r → Rel E x v → Rel E y u → ∀ w, (Op.equalIn D e v u).run P w = .ok r.2 w) {c : Nat} {xs ys : List AV} {vs us : Array Value} (hx : RelL E xs vs.toList) (hy : RelL E ys us.toList) (hx1 : ∀ u ∈ vs.toList, u.oneCell' = true) (hy1 : ∀ u ∈ us.toList, u.oneCell' = true) (w : World) :
    ∀ (is : List Nat) (r : Bool × Bool), eqIs P eq e c xs ys is = some r → (Op.eqItems D e c vs us is).run P w = .ok r.2 w
  | [], r, H => by cases H; simp [Op.eqItems]
  | i :: is, r, H => by
    simp only [eqIs] at H
    split at H
    · rename_i a b ha hb
      split at H
      · rename_i p q hp hq
        cases H
        obtain ⟨v, hv, hvr⟩ := partA_ok ha hx hx1
        obtain ⟨u, hu, hur⟩ := partA_ok hb hy hy1
        have h1 := he a b p v u hp hv hu w
        have h2 := eqIs_ok he hx hy hx1 hy1 w is q hq
        rw [Op.eqItems]
        simp only [Sem.run_bind, hvr, hur, h1, Result.andThen_ok, bothB_snd]
        cases p.2 <;> simp [h2]
      · cases H
    · cases H
theorem eqAV_ok : ∀ (n D : Nat), n ≤ D → EqAt P E D (eqAV P n)
  | 0, _, _ => fun t x y r v u H _ _ => by cases H
  | n + 1, 0, h => by omega
  | n + 1, D + 1, h => fun t x y r v u H hx hy w => by
    have ih := eqAV_ok n D (by omega)
    simp only [eqAV] at H
    split at H
    · rename_i kk k1 k a k2 k' b hu
      cases hk : decide (k = k')
      · rw [hk] at H; cases H
      · rw [hk] at H
        obtain rfl := of_decide_eq_true hk
        obtain rfl := rel_int hx
        obtain rfl := rel_int hy
        cases H
        exact run_equalIn_int w D t k kk a b hu
    · rename_i hu
      obtain ⟨rfl, _⟩ := hx
      obtain ⟨rfl, _⟩ := hy
      cases H
      exact run_equalIn_string w D t _ _ hu
    · rename_i hu
      obtain ⟨rfl, _⟩ := hx
      obtain ⟨rfl, _⟩ := hy
      cases H
      exact run_equalIn_bool' w D t _ _ hu
    · rename_i fs xs ys hu
      obtain ⟨vs, rfl, hx, hx1⟩ := hx
      obtain ⟨us, rfl, hy, hy1⟩ := hy
      cases hs : P.stoodInHeld t
      · rw [hs] at H
        have hf : P.fieldsOf t = fs := by unfold Program.fieldsOf; rw [hu]
        rw [run_equalIn_struct w D t vs us (by rw [hf]; exact hu) hs, hf]
        exact eqFs_ok ih hx hy hx1 hy1 w _ _ H
      · rw [hs] at H; cases H
    · rename_i m e xs ys hu
      obtain ⟨vs, rfl, hx, hx1⟩ := hx
      obtain ⟨us, rfl, hy, hy1⟩ := hy
      split at H
      · rename_i c hc
        obtain ⟨i, hi, hi2⟩ := sizeT_info hc
        have hco : P.cellsOf e = c := by unfold Program.cellsOf; rw [hi]; exact hi2
        rw [run_equalIn_array w D vs us hu hi, hco]
        exact eqIs_ok (fun x y r v u h => ih e x y r v u h) hx hy hx1 hy1 w _ _ H
      · cases H
    · cases H
theorem indexA_ok {K : AV → Prop} {t : TypeId} {x i : AV} {v iv : Value} (H : (indexA P t x i).holds K) (hx : Rel E x v) (hi : Rel E i iv) : ∃ av u, K av ∧ (∀ w, (Instr.index t v iv).run P w = .ok u w) ∧ Rel E av u := by
  unfold indexA at H
  split at H
  · rename_i m e cs kk n hu
    obtain ⟨vs, rfl, hx, hx1⟩ := hx
    obtain rfl := rel_int hi
    split at H
    · rename_i k hk
      cases hd : decide (0 ≤ n ∧ n < (m : Int))
      · rw [hd] at H; exact H.elim
      · rw [hd] at H
        simp only [cond_true] at H
        split at H
        · rename_i av hp
          obtain ⟨u, g1, g2⟩ := partA_ok hp hx hx1
          refine ⟨av, u, H, fun w => ?_, g1⟩
          simp only [Instr.index, asIntOf, Sem.run_bind, Sem.run_pure, Result.andThen_ok, run_underlying hu]
          rw [if_pos (of_decide_eq_true hd)]
          simp only [Sem.run_bind, run_sizeOf hk, Result.andThen_ok, g2]
        · exact H.elim
    · exact H.elim
  · rename_i k1 s k2 kk n hu
    obtain ⟨rfl, _⟩ := hx
    obtain rfl := rel_int hi
    obtain ⟨hc, H⟩ := need_holds H
    obtain ⟨h0, h1⟩ := of_decide_eq_true hc
    refine ⟨_, _, H, fun w => ?_, rfl, rfl⟩
    have hl : n.toNat < s.size := by omega
    have hg : s[n.toNat]? = some (s.data.getD n.toNat 0) := by
      rw [getElem?_pos s n.toNat hl]
      have hl' : n.toNat < s.data.size := hl
      unfold Array.getD
      rw [dif_pos hl']; rfl
    simp only [Instr.index, asIntOf, Sem.run_bind, Sem.run_pure, Result.andThen_ok, run_underlying hu]
    rw [if_pos h0, hg]
    rfl
  · exact H.elim
theorem fieldA_ok {K : AV → Prop} {t : TypeId} {x : AV} {f : Nat} {v : Value} (H : (fieldA P t x f).holds K) (hx : Rel E x v) : ∃ av u, K av ∧ (∀ w, (Instr.field t v f).run P w = .ok u w) ∧ Rel E av u := by
  unfold fieldA at H
  split at H
  · rename_i fs cs hu
    obtain ⟨vs, rfl, hx, hx1⟩ := hx
    split at H
    · rename_i fd hf
      split at H
      · rename_i av hp
        obtain ⟨u, g1, g2⟩ := partA_ok hp hx hx1
        refine ⟨av, u, H, fun w => ?_, g1⟩
        simp [Instr.field, run_underlying hu, hf, asAgg, g2]
      · exact H.elim
    · exact H.elim
  · exact H.elim
theorem binA_ok {K : AV → Prop} {op : BinOp} {t : TypeId} {x y : AV} {v u : Value} {ox oy : Operand} (H : (binA P op t x y).holds K) (hx : Rel E x v) (hy : Rel E y u) :
    ∃ av r, K av ∧ (∀ w, (do eqGuard op t ox oy v u; binOp op t v u : Sem Value).run P w = .ok r w) ∧ Rel E av r := by
  have fin : (∀ cs, v ≠ .agg cs) ∧ v ≠ .nilIface → (∃ av r, K av ∧ (∀ w, (binOp op t v u).run P w = .ok r w) ∧ Rel E av r) → ∃ av r, K av ∧ (∀ w, (do eqGuard op t ox oy v u; binOp op t v u : Sem Value).run P w = .ok r w) ∧ Rel E av r := by
    rintro hp ⟨av, r, h1, h2, h3⟩
    exact ⟨av, r, h1, fun w => by simp only [Sem.run_bind, run_guard_sc hp, Result.andThen_ok, h2], h3⟩
  unfold binA at H
  split at H
  · obtain rfl := rel_int hx
    obtain rfl := rel_int hy
    refine fin (by simp) ?_
    split at H
    · obtain ⟨hc, H⟩ := need_holds H
      have hc' := of_decide_eq_true hc
      refine ⟨_, _, H, fun w => ?_, rfl, rfl⟩
      simp only [binOp, Op.shift]
      rw [if_neg (by omega)]
      rfl
    · obtain ⟨hc, H⟩ := need_holds H
      have hc' := of_decide_eq_true hc
      refine ⟨_, _, H, fun w => ?_, rfl, rfl⟩
      simp only [binOp, Op.shift]
      rw [if_neg (by omega)]
      rfl
    · rename_i _ k p _ k' q _ h1 h2
      cases hk : decide (k = k')
      · rw [hk] at H; exact H.elim
      · rw [hk] at H
        obtain rfl := of_decide_eq_true hk
        exact intOp_ok t ⟨fun e => h1 e, fun e => h2 e⟩ H
  · obtain ⟨rfl, _⟩ := hx
    obtain ⟨rfl, _⟩ := hy
    exact fin (by simp) (strOp_ok t H)
  · obtain ⟨rfl, _⟩ := hx
    obtain ⟨rfl, _⟩ := hy
    refine fin (by simp) ?_
    split at H
    · rename_i hu
      split at H
      · exact ⟨_, _, H, fun w => by simp [binOp, run_equal_bool hu], rfl, rfl⟩
      · exact ⟨_, _, H, fun w => by simp [binOp, run_equal_bool hu], rfl, rfl⟩
      · exact H.elim
    · exact H.elim
  · obtain ⟨rfl, _⟩ := hx
    obtain ⟨rfl, _⟩ := hy
    refine fin (by simp) ?_
    split at H
    · rename_i hu
      exact ⟨_, _, H, fun w => by simp [binOp, run_equal_nilf hu], rfl, rfl⟩
    · rename_i hu
      exact ⟨_, _, H, fun w => by simp [binOp, run_equal_nilf hu], rfl, rfl⟩
    · exact H.elim
  · rename_i kn es d tip _
    obtain ⟨⟨_, ad, cap, rfl, g1, g2, g3, g4⟩, _⟩ := hx
    obtain ⟨rfl, _⟩ := hy
    refine fin (by simp) ?_
    have hnn : d.len ≠ 0 → ad.isNone = false := fun h0 => by
      obtain ⟨b, o, rfl, _⟩ := g4 h0
      rfl
    split at H
    · rename_i hu
      rcases brk_holds H with ⟨_, H⟩ | ⟨h0, H⟩
      · cases hb : ad.isNone
        · exact ⟨_, .bool false, H.2, fun w => by simp [binOp, run_equal_slice hu, hb], rfl, rfl⟩
        · exact ⟨_, .bool true, H.1, fun w => by simp [binOp, run_equal_slice hu, hb], rfl, rfl⟩
      · have hb := hnn (of_decide_eq_false h0)
        exact ⟨_, .bool false, H, fun w => by simp [binOp, run_equal_slice hu, hb], rfl, rfl⟩
    · rename_i hu
      rcases brk_holds H with ⟨_, H⟩ | ⟨h0, H⟩
      · cases hb : ad.isNone
        · exact ⟨_, .bool true, H.2, fun w => by simp [binOp, run_equal_slice hu, hb], rfl, rfl⟩
        · exact ⟨_, .bool false, H.1, fun w => by simp [binOp, run_equal_slice hu, hb], rfl, rfl⟩
      · have hb := hnn (of_decide_eq_false h0)
        exact ⟨_, .bool true, H, fun w => by simp [binOp, run_equal_slice hu, hb], rfl, rfl⟩
    · exact H.elim
  · obtain ⟨rfl, _⟩ := hx
    obtain ⟨rfl, _⟩ := hy
    refine fin (by simp) ?_
    split at H
    · rename_i hu
      exact ⟨_, _, H, fun w => by simp [binOp, run_equal_slice hu], rfl, rfl⟩
    · rename_i hu
      exact ⟨_, _, H, fun w => by simp [binOp, run_equal_slice hu], rfl, rfl⟩
    · exact H.elim
  · obtain ⟨vs, rfl, hx2, hx1⟩ := hx
    obtain ⟨us, rfl, hy2, hy1⟩ := hy
    cases hg : P.eqGuardType P.depth t
    · rw [hg] at H
      simp only [cond_false] at H
      split at H
      · rename_i kn r hr
        have := fun w => eqAV_ok (P := P) (E := E) 16 10000 (by omega) t _ _ _ _ _ hr ⟨vs, rfl, hx2, hx1⟩ ⟨us, rfl, hy2, hy1⟩ w
        refine ⟨_, .bool r, H, fun w => ?_, rfl, rfl⟩
        simp only [Sem.run_bind, run_eqGuard_agg w _ t _ _ vs us hg, Result.andThen_ok, binOp, Op.equal, Op.maxDepth, this, Sem.run_pure]
      · rename_i kn r hr
        have := fun w => eqAV_ok (P := P) (E := E) 16 10000 (by omega) t _ _ _ _ _ hr ⟨vs, rfl, hx2, hx1⟩ ⟨us, rfl, hy2, hy1⟩ w
        refine ⟨_, .bool (!r), H, fun w => ?_, rfl, rfl⟩
        simp only [Sem.run_bind, run_eqGuard_agg w _ t _ _ vs us hg, Result.andThen_ok, binOp, Op.equal, Op.maxDepth, this, Sem.run_pure]
      · exact H.elim
    · rw [hg] at H; exact H.elim
  · obtain ⟨_, _, rfl, _⟩ := hx
    obtain ⟨rfl, _⟩ := hy
    refine fin (by simp) ?_
    split at H
    · rename_i hu
      exact ⟨_, _, H, fun w => by simp [binOp, run_equal_fn hu], rfl, rfl⟩
    · rename_i hu
      exact ⟨_, _, H, fun w => by simp [binOp, run_equal_fn hu], rfl, rfl⟩
    · exact H.elim
  · obtain ⟨b, hb⟩ : ∃ b, nilB P t x y = some b := by
      cases hn : nilB P t x y with
      | none => rw [hn] at H; exact H.elim
      | some b => exact ⟨b, rfl⟩
    rw [hb] at H
    obtain ⟨hna, hq, hq'⟩ := nilB_ok hb hx hy
    refine fin hna ?_
    cases op <;> first
      | exact H.elim
      | exact ⟨_, .bool b, H, hq, rfl, rfl⟩
      | exact ⟨_, .bool (!b), H, hq', rfl, rfl⟩
theorem unA_ok {K : AV → Prop} {op : UnOp} {x : AV} {v : Value} (H : (unA op x).holds K) (hx : Rel E x v) : ∃ av r, K av ∧ (∀ w, (Op.unary op v).run P w = .ok r w) ∧ Rel E av r := by
  unfold unA at H
  split at H
  · obtain ⟨rfl, _⟩ := hx
    exact ⟨_, _, H, fun w => by simp [Op.unary], rfl, rfl⟩
  · obtain ⟨rfl, _⟩ := hx
    exact ⟨_, _, H, fun w => by simp [Op.unary, Op.intArith], rfl, rfl⟩
  · obtain ⟨rfl, _⟩ := hx
    exact ⟨_, _, H, fun w => by rw [unary_xor]; simp [Op.intBits, cond_eq_ite], rfl, rfl⟩
  · exact H.elim
theorem minA_ok {K : AV → Prop} {l : List Operand} {ts : Array TypeId} {ty : TypeId} (hT : RelT E F a) (H : (minA (l.map (opnd F))).holds K) : ∃ av r, K av ∧ (∀ w, (Builtin.min_ ts ty (l.map a.eval).toArray).run P w = .ok r w) ∧ Rel E av r := by
  unfold minA at H
  split at H
  · rename_i k1 k p k2 k' q hl
    match l, hl with
    | [x, y], hl =>
      simp only [List.map_cons, List.map_nil, List.cons.injEq, and_true] at hl
      have h1 := rel_opnd hT x
      have h2 := rel_opnd hT y
      rw [hl.1] at h1
      rw [hl.2] at h2
      exact ⟨_, _, H, fun w => by simp [Builtin.min_, h1.1, h2.1, List.foldlM, Builtin.min2, imin], rfl, rfl⟩
    | [], hl => simp at hl
    | [_], hl => simp at hl
    | _ :: _ :: _ :: _, hl => simp at hl
  · exact H.elim
theorem maxA_ok {K : AV → Prop} {l : List Operand} {ts : Array TypeId} {ty : TypeId} (hT : RelT E F a) (H : (maxA (l.map (opnd F))).holds K) : ∃ av r, K av ∧ (∀ w, (Builtin.max_ ts ty (l.map a.eval).toArray).run P w = .ok r w) ∧ Rel E av r := by
  unfold maxA at H
  split at H
  · rename_i k1 k p k2 k' q hl
    match l, hl with
    | [x, y], hl =>
      simp only [List.map_cons, List.map_nil, List.cons.injEq, and_true] at hl
      have h1 := rel_opnd hT x
      have h2 := rel_opnd hT y
      rw [hl.1] at h1
      rw [hl.2] at h2
      exact ⟨_, _, H, fun w => by simp [Builtin.max_, h1.1, h2.1, List.foldlM, Builtin.max2, imax], rfl, rfl⟩
    | [], hl => simp at hl
    | [_], hl => simp at hl
    | _ :: _ :: _ :: _, hl => simp at hl
  · exact H.elim

/-! Structs that are put together. -/
theorem foldl_sets : ∀ (new : List Value) (cells : Array Value) (off j : Nat), off + j + new.length ≤ cells.size →
    ((new.zipIdx j).foldl (fun cs (p : Value × Nat) => cs.setIfInBounds (off + p.2) p.1) cells).toList = cells.toList.take (off + j) ++ new ++ cells.toList.drop (off + j + new.length)
  | [], cells, off, j, _ => by simp
  | v :: new, cells, off, j, h => by
    simp only [List.length_cons] at h
    rw [List.zipIdx_cons, List.foldl_cons, foldl_sets new _ off (j + 1) (by simp; omega)]
    simp only [Array.toList_setIfInBounds]
    rw [show off + (j + 1) = off + j + 1 by omega, List.take_add_one, List.take_set_of_le (by omega), List.getElem?_set_self (by simp; omega), List.drop_set_of_lt (by omega)]
    simp only [List.length_cons, Option.toList_some, List.append_assoc, List.cons_append, List.nil_append]
    rw [show off + j + 1 + new.length = off + j + (new.length + 1) by omega]
theorem fill_step {cells new : Array Value} {off : Nat} (h : off + new.size ≤ cells.size) :
    (new.zipIdx.foldl (fun cs (p : Value × Nat) => cs.setIfInBounds (off + p.2) p.1) cells).toList = cells.toList.take off ++ new.toList ++ cells.toList.drop (off + new.size) := by
  rw [← Array.foldl_toList, Array.toList_zipIdx]
  have := foldl_sets new.toList cells off 0 (by simpa using h)
  simpa using this
theorem fillA_ok {place : Nat → Option (Nat × Nat)} : ∀ {parts : List (Nat × AV)} {vs : List (Nat × Value)} {cs out : List AV} {cells : Array Value},
    fillA place cs parts = some out → RelL E cs cells.toList → (∀ u ∈ cells.toList, u.oneCell' = true) → parts.length = vs.length → (∀ (i : Nat) (p : Nat × AV) (q : Nat × Value), parts[i]? = some p → vs[i]? = some q → p.1 = q.1 ∧ Rel E p.2 q.2) →
    ∃ r, Instr.fill place cells vs = some r ∧ RelL E out r.toList ∧ (∀ u ∈ r.toList, u.oneCell' = true) ∧ r.size = cells.size
  | [], vs, cs, out, cells, hf, hr, h1, hl, _ => by
    simp only [fillA] at hf
    cases hf
    obtain rfl : vs = [] := by simpa using hl.symm
    exact ⟨cells, rfl, hr, h1, rfl⟩
  | (i, x) :: parts, [], _, _, _, _, _, _, hl, _ => by simp at hl
  | (i, x) :: parts, (i', v) :: vs, cs, out, cells, hf, hr, h1, hl, hp => by
    obtain ⟨rfl, hx⟩ : i = i' ∧ Rel E x v := hp 0 _ _ rfl rfl
    simp only [fillA] at hf
    split at hf
    · rename_i off n new hpl hc
      cases hb : Nat.beq new.length n && Nat.ble (off + n) cs.length
      · rw [hb] at hf; cases hf
      · rw [hb] at hf
        simp only [Bool.and_eq_true, cond_true] at hb hf
        obtain rfl := Nat.eq_of_beq_eq_true hb.1
        have hle := Nat.le_of_ble_eq_true hb.2
        obtain ⟨g1, g2⟩ := rel_cells hx hc
        have l1 : new.length = v.cells.size := by have := g1.length; simpa using this
        have l2 : cs.length = cells.size := by have := hr.length; simpa using this
        have hfit : off + v.cells.size ≤ cells.size := by omega
        have hstep := fill_step (cells := cells) (new := v.cells) hfit
        obtain ⟨r, e1, e2, e3, e4⟩ := fillA_ok (parts := parts) (vs := vs) (cells := v.cells.zipIdx.foldl (fun cs (p : Value × Nat) => cs.setIfInBounds (off + p.2) p.1) cells) hf
          (by rw [hstep]; have := ((hr.take off).append g1).append (hr.drop (off + new.length)); rw [l1] at this ⊢; exact this)
          (by
            rw [hstep]
            intro u hu
            simp only [List.mem_append] at hu
            rcases hu with (hu | hu) | hu
            · exact h1 u (List.mem_of_mem_take hu)
            · exact g2 u hu
            · exact h1 u (List.mem_of_mem_drop hu))
          (by simpa using hl) (fun j p q hj hq => hp (j + 1) p q (by simpa using hj) (by simpa using hq))
        have hsz : (v.cells.zipIdx.foldl (fun cs (p : Value × Nat) => cs.setIfInBounds (off + p.2) p.1) cells).size = cells.size := by
          rw [← Array.length_toList, hstep]
          simp only [List.length_append, List.length_take, List.length_drop, Array.length_toList]; omega
        refine ⟨r, ?_, e2, e3, e4.trans hsz⟩
        unfold Instr.fill
        simp only [hpl]
        rw [if_neg (by simp [l1]; omega)]
        exact e1
    · cases hf
theorem rel_parts {ps : List (Nat × Operand)} (hT : RelT E F a) (i : Nat) (p : Nat × AV) (q : Nat × Value) (h1 : (ps.map fun p => (p.1, opnd F p.2))[i]? = some p) (h2 : (ps.map fun p => (p.1, a.eval p.2))[i]? = some q) : p.1 = q.1 ∧ Rel E p.2 q.2 := by
  rw [List.getElem?_map] at h1 h2
  cases hp : ps[i]? with
  | none => rw [hp] at h1; cases h1
  | some x => rw [hp] at h1 h2; cases h1; cases h2; exact ⟨rfl, rel_opnd hT _⟩
theorem zeroA_ok {t : TypeId} {cs : List AV} (hz : zeroA P t = some cs) : ∃ z, (∀ w, (zeroValue t).run P w = .ok z w) ∧ (∃ i, P.info? t = some i ∧ i.zero = some z) ∧ RelL E cs z.cells.toList ∧ ∀ u ∈ z.cells.toList, u.oneCell' = true := by
  unfold zeroA at hz
  split at hz
  · rename_i z hz'
    cases hi : P.info? t with
    | none => rw [hi] at hz'; cases hz'
    | some i =>
      rw [hi] at hz'
      have hz'' : i.zero = some z := hz'
      obtain ⟨g1, g2⟩ := rel_cells (E := E) (rel_const z) hz
      exact ⟨z, fun w => by simp [zeroValue, typeInfo, hi, hz''], ⟨i, rfl, hz''⟩, g1, g2⟩
  · cases hz
theorem run_places : ∀ {fs : List Field}, (∀ f ∈ fs, ∃ n, sizeT P f.type = some n) → (fs.mapM (m := Sem) fun f => do pure (f.offset, ← sizeOf f.type)).run P w = .ok (fs.map fun f => (f.offset, (sizeT P f.type).getD 0)) w
  | [], _ => rfl
  | f :: fs, h => by
    obtain ⟨n, hn⟩ := h f (by simp)
    have ih := run_places (fs := fs) fun f hf => h f (List.mem_cons_of_mem _ hf)
    simp only [List.mapM_cons, Sem.run_bind, run_sizeOf hn, Result.andThen_ok, Sem.run_pure, List.map_cons, hn, Option.getD_some]
    rw [ih]
    rfl
theorem fill_congr {p q : Nat → Option (Nat × Nat)} : ∀ {vs : List (Nat × Value)} {cells : Array Value}, (∀ v ∈ vs, p v.1 = q v.1) → Instr.fill p cells vs = Instr.fill q cells vs
  | [], _, _ => rfl
  | (i, v) :: vs, cells, h => by
    have h0 := h (i, v) (by simp)
    simp only at h0
    unfold Instr.fill
    rw [h0]
    split
    · rfl
    · split
      · rfl
      · exact fill_congr fun v hv => h v (by simp [hv])
theorem fillA_places {place : Nat → Option (Nat × Nat)} : ∀ {parts : List (Nat × AV)} {cs out : List AV}, fillA place cs parts = some out → ∀ p ∈ parts, (place p.1).isSome = true
  | [], _, _, _, _, hp => by simp at hp
  | (i, x) :: parts, cs, out, hf, p, hp => by
    simp only [fillA] at hf
    split at hf
    · rename_i off n new hpl hc
      cases hb : Nat.beq new.length n && Nat.ble (off + n) cs.length
      · rw [hb] at hf; cases hf
      · rw [hb] at hf
        rcases List.mem_cons.1 hp with rfl | hp
        · simp [hpl]
        · exact fillA_places hf p hp
    · cases hf
def allSized (P : Program) (fs : Array Field) : Bool := fs.toList.all fun f => (sizeT P f.type).isSome
theorem buildA_ok {K : AV → Prop} {t : TypeId} {ps : Array (Nat × Operand)} {vps : Array (Nat × Value)} (hps : vps.toList = ps.toList.map fun p => (p.1, a.eval p.2)) (hT : RelT E F a) (H : (buildA P t (ps.toList.map fun p => (p.1, opnd F p.2))).holds K) :
    ∃ av u, K av ∧ (∀ w, (Instr.build t vps).run P w = .ok u w) ∧ Rel E av u := by
  unfold buildA at H
  split at H
  · exact H.elim
  rename_i z hz
  obtain ⟨zv, hzr, _, g1, g2⟩ := zeroA_ok (E := E) hz
  split at H
  · rename_i fs hu
    cases hall : fs.toList.all (fun f => (sizeT P f.type).isSome)
    · rw [hall] at H; exact H.elim
    rw [hall] at H
    simp only [cond_true] at H
    have hall' : ∀ f ∈ fs.toList, ∃ n, sizeT P f.type = some n := fun f hf => Option.isSome_iff_exists.1 (List.all_eq_true.1 hall f hf)
    split at H
    · rename_i cs hf
      obtain ⟨r, e1, e2, e3, _⟩ := fillA_ok (vs := ps.toList.map fun p => (p.1, a.eval p.2)) hf g1 g2 (by simp) (fun i p q => rel_parts hT i p q)
      refine ⟨_, .agg r, H, fun w => ?_, r, rfl, e2, e3⟩
      have hpl := run_places (P := P) (w := w) hall'
      have hm : (fs.mapM (m := Sem) fun f => do pure (f.offset, ← sizeOf f.type)).run P w = .ok (fs.map fun f => (f.offset, (sizeT P f.type).getD 0)) w := by
        rw [Array.mapM_eq_mapM_toList]
        show (List.mapM (m := Sem) (fun f : Field => do pure (f.offset, ← sizeOf f.type)) fs.toList >>= fun l => pure l.toArray : Sem _).run P w = _
        rw [Sem.run_bind, hpl]
        simp only [Result.andThen_ok, Sem.run_pure]
        congr 1
        apply Array.ext'
        simp
      have hfe : Instr.fill ((fs.map fun f => (f.offset, (sizeT P f.type).getD 0))[·]?) zv.cells vps.toList = some r := by
        rw [hps, ← e1]
        refine fill_congr fun v hv => ?_
        obtain ⟨q, hq, rfl⟩ := List.mem_map.1 hv
        have hs := fillA_places hf (q.1, opnd F q.2) (List.mem_map.2 ⟨q, hq, rfl⟩)
        unfold fieldsA at hs ⊢
        simp only [Array.getElem?_map]
        cases hfi : fs[q.1]? with
        | none => rw [hfi] at hs; cases hs
        | some f =>
          obtain ⟨n, hn⟩ := hall' f (by simpa using Array.mem_of_getElem? hfi)
          simp [hn]
      simp only [Instr.build, Sem.run_bind, hzr, Result.andThen_ok, run_underlying hu, hm, hfe, Sem.run_pure]
    · exact H.elim
  · rename_i m e hu
    split at H
    · rename_i n hn
      split at H
      · rename_i cs hf
        obtain ⟨r, e1, e2, e3, _⟩ := fillA_ok (vs := ps.toList.map fun p => (p.1, a.eval p.2)) hf g1 g2 (by simp) (fun i p q => rel_parts hT i p q)
        refine ⟨_, .agg r, H, fun w => ?_, r, rfl, e2, e3⟩
        rw [← hps] at e1
        simp only [Instr.build, Sem.run_bind, hzr, Result.andThen_ok, run_underlying hu, run_sizeOf hn, e1, Sem.run_pure]
      · exact H.elim
    · exact H.elim
  · exact H.elim
end
end
end Go.Proofs.YtdlomggjhclmlaaGreatDoor
