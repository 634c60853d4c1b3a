/- Mn, 5: texts of this claim, one behind the other: Kg4 Kg5 Kg6 Kg7 Kg8 EvS Kf3 Kf4 Kf5 Kf6 Kf7 Kh1 Kf8. No condition. -/
import Derived.Test.YtcambhbmobepjaaGreatMn4
namespace Go.Proofs.YtcambhbmobepjaaGreat
set_option linter.unusedSimpArgs false
set_option linter.unusedVariables false
open Go.RowKit
set_option maxRecDepth 100000
noncomputable section

theorem not_op {P : Program} {r : Option Nat} {m : Nat} {ops : Array Oper} {Q : Exit → Act → World → Prop} {a : Act} {w : World} {o : Oper} {t s d : Nat} {b : Bool} (ho : o.op = .unOp .not t (.tmp s)) (hg : o.guard = none) (hd : o.dst = some d) (he : a.eval (.tmp s) = .bool b) (h : Q .normal (a.put (some d) (.bool (!b))) w) : wpListIn (FW r) m P ops Q [o] a w := by
  unfold wpListIn
  rw [if_pos (by simp [Region.wanted, hg])]
  refine ⟨fun _ _ => trivial, ?_⟩
  rw [Oper.semAt_eq _ _ _ (fun c e => by rw [ho] at e; cases e)]
  have hr : (execOp a.eval o).run P w = .ok (.value (.bool (!b))) w := by
    obtain ⟨dst, op, type, pos, after, guard⟩ := o
    subst ho
    simp only [execOp, he]
    simp [Op.unary]
  rw [hr, Oper.uponIn_value, hd]
  exact h
theorem eval_sc {E : Env} {F : Tm} {a : Act} {t : Nat} {kn : Bool} {v : Value} (hT : RelT E F a) (hl : look t F.tm = .sc kn v) : a.eval (.tmp t) = v := by
  have := hT.tm t
  rw [hl] at this; exact this.1
theorem eval_fn {E : Env} {F : Tm} {a : Act} {t L : Nat} (hT : RelT E F a) (hl : look t F.tm = .fn (.yield L) [] []) : a.eval (.tmp t) = .func (.yield L) #[] #[] := by
  have := hT.tm t
  rw [hl] at this
  obtain ⟨a', c', hv, h1, h2⟩ := this
  obtain rfl : a' = #[] := by cases a' with | mk l => have : l = [] := h1; subst this; rfl
  obtain rfl : c' = #[] := by cases c' with | mk l => have : l = [] := h2; subst this; rfl
  exact hv
theorem df_nil {E : Env} {F : Tm} {a : Act} (hT : RelT E F a) (h : F.df = []) : a.defers = [] := by
  have := hT.df
  rw [h] at this; exact this
def AdvK (l : Nat) (d ol : D) (o : Out) : Prop := o.1 = .normal ∧ o.2.2 = advH d ol ∧ o.2.1.df = [] ∧ o.2.1.nt = 48 ∧ look 0 o.2.1.tm = .fn (.yield l) [] [] ∧ look 1 o.2.1.tm = .ptr 3 0 ∧ look 3 o.2.1.tm = .ptr 4 0
theorem good_of {d : D} (hb : bytesB d = true) (hg : badO d = false) (h0 : d.len ≠ 0) : 2 ≤ d.len ∧ 2 ≤ byN d 1 ∧ byN d 1 ≤ (d.len : Int) ∧ byN d 1 < 256 := by
  have h := of_decide_eq_false hg
  have := bytes_at hb (i := 1) (by omega)
  omega
theorem adv_holds (l : Nat) {d ol : D} (hb : bytesB d = true) (hg : badO d = false) (h0 : d.len ≠ 0) : (evC Tryz.prog (gam (clG Tryz.prog)) (lam []) 100 151 (.seq (sL (sR (itY Tryz.prog))) (sL (sR (sR (itY Tryz.prog))))) (itF l) (itH d ol)).holds (AdvK l d ol) := by
  rw [it_adv]
  obtain ⟨h1, h2, h3, _⟩ := good_of hb hg h0
  refine ⟨fun _ => ⟨fun _ => ⟨fun _ => ⟨fun _ => ⟨fun _ => ⟨rfl, rfl, rfl, rfl, rfl, rfl, rfl⟩, fun h => ?_⟩, fun h => ?_⟩, fun h => ?_⟩, fun h => ?_⟩, fun h => ?_⟩
  all_goals refine absurd ?_ (of_decide_eq_false h)
  · exact ⟨by have : 2 ≤ byN d 1 := h2; show 0 ≤ byN d 1; omega, h3, by omega, by omega⟩
  · omega
  · exact ⟨by omega, h2, h3, by omega⟩
  · omega
  · omega
/-- what a bad round leaves -/
def BadK (d ol : D) (o : Out) : Prop := o.1 = .ret ∧ o.2.2.can 4 1 1000 1000 = errH 80 d ol ∧ 1 ≤ o.2.2.nv
theorem bad_holds (d ol : D) : (evC Tryz.prog (gam (clG Tryz.prog)) (lam []) 100 104 (rfA (dcR Tryz.prog)) (dcF zerV false) (itH d ol)).holds fun o => o.1 = .normal ∧ (evC Tryz.prog (gam (clG Tryz.prog)) (lam []) 100 104 (rfB (dcR Tryz.prog)) o.2.1 o.2.2).holds fun o => (o.1 = .normal ∨ o.1 = .ret) ∧ BadK d ol o := by
  rw [rd_ab]
  refine ⟨rfl, ?_⟩
  show (evC _ _ _ _ _ _ (r1F zerV false 4) (rbH d ol)).holds _
  rw [rd_bb]
  exact ⟨.inr rfl, rfl, rfl, Nat.le_of_ble_eq_true rfl⟩
/-- what a good round leaves -/
def GoodK (d ol : D) (o : Out) : Prop := 1 ≤ o.2.2.nv ∧ ((o.1 = .ret ∧ ol.len = 64 ∧ o.2.2.can 4 1 1000 1000 = errH 3 (advD d) ol) ∨ (o.1 = .normal ∧ ol.len ≠ 64 ∧ o.2.2.can 4 1 1000 1000 = itH (advD d) (ol.app (.l [optD d]))))
theorem good_holds (d : D) {ol : D} (hol : ol.len ≤ 64) : (evC Tryz.prog (gam (clG Tryz.prog)) (lam []) 100 104 (rfA (dcR Tryz.prog)) (dcF (optV d) true) (advH d ol)).holds fun o => o.1 = .normal ∧ (evC Tryz.prog (gam (clG Tryz.prog)) (lam []) 100 104 (rfB (dcR Tryz.prog)) o.2.1 o.2.2).holds fun o => (o.1 = .normal ∨ o.1 = .ret) ∧ GoodK d ol o := by
  rw [rd_aa]
  refine ⟨rfl, ?_⟩
  show (evC _ _ _ _ _ _ (r1F (optV d) true 5) (raH d ol)).holds _
  rw [rd_ba]
  refine ⟨fun h => ⟨.inr rfl, Nat.le_of_ble_eq_true rfl, .inl ⟨rfl, ?_, rfl⟩⟩, fun h => ⟨fun _ => ⟨.inl rfl, Nat.le_of_ble_eq_true rfl, .inr ⟨rfl, ?_, rfl⟩⟩, fun h2 => ?_⟩⟩
  · have : (ol.len : Int) = 64 := by simpa using h
    omega
  · intro e
    rw [e] at h; revert h; decide
  · exact absurd (show (ol.len + 1) * 32 ≤ 140737488355328 by omega) (of_decide_eq_false h2)
section
variable {w0 wb : World} {G : Nat → Prop} {Eb : Env} {hb : Hp} {t0 : Array Value} {fn L Dp n : Nat} {Q : Exit → Act → World → Prop} {next : Act → World → Prop}
/-- one round -/
theorem dec_round (Ib : Inv Tryz.prog w0 G Eb hb wb) (hb4 : hb.nx ≤ 4) (hb1 : hb.nv ≤ 1) (hbN : hb.ng ≤ 1000) (hbe : ∀ o, Eb.live o → ver o hb < 1000)
    (hTd : RelT Eb fdT { tmps := t0, defers := [] }) (hL0 : w0.heap.size ≤ L) (hLD : Dp ≠ L) (hQ : ¬ LetsOut Q) {d ol : D} {E : Env} {w : World} {a : Act} (hby : bytesB d = true) (hol : ol.len ≤ 64)
    (S : Stepd Tryz.prog w0 G Eb hb wb E (itH d ol) w) (hT : RelT E (itF L) a) (hL : w.heap[L]? = some (.loop (recD Tryz.prog fn t0 Dp))) (hD : w.heap[Dp]? = some (.deferred (some [])))
    (hnext : d.len ≠ 0 → badO d = false → ol.len ≠ 64 → ∀ E' a' w', Stepd Tryz.prog w0 G Eb hb wb E' (itH (advD d) (ol.app (.l [optD d]))) w' → RelT E' (itF L) a' → w'.heap[L]? = some (.loop (recD Tryz.prog fn t0 Dp)) → w'.heap[Dp]? = some (.deferred (some [])) → next a' w')
    (hdone : d.len = 0 → ∀ E' a' w', Stepd Tryz.prog w0 G Eb hb wb E' (itH d ol) w' → a'.defers = [] → w'.heap[L]? = some (.loop (recD Tryz.prog fn t0 Dp)) → w'.heap[Dp]? = some (.deferred (some [])) → Q (.exit 0) a' w')
    (hfail : ∀ e, d.len ≠ 0 → (badO d = true ∧ e = 80 ∨ badO d = false ∧ ol.len = 64 ∧ e = 3) → ∀ E' a' w' d', Stepd Tryz.prog w0 G Eb hb wb E' (errH e d' ol) w' → a'.defers = [] → w'.heap[L]? = some (.loop { recD Tryz.prog fn t0 Dp with state := .done, pending := some .ret }) → w'.heap[Dp]? = some (.deferred (some [])) → Q .ret a' w') :
    (itX Tryz.prog).wpIn (FW none) n Tryz.prog (Exit.then next Q) a w := by
  rw [it_code]
  refine seq_then mixed clG_ok none n 99 151 (K := HeadK L d ol) (head_holds L hby) it_calm0 (fun h => hQ h) S.inv hT ?_ ?_
  rotate_left
  · rintro ex F' h' E' a' w' hne ⟨hh, hdf, (⟨hex, h0⟩ | ⟨hex, _⟩)⟩ S1 hT1 f1
    · simp only at hh hex; subst hh; subst hex
      exact hdone h0 E' a' w' (S.trans S1) (df_nil hT1 hdf) (f1 _ _ hL rfl) (f1 _ _ hD rfl)
    · exact absurd hex hne
  intro F' h' E' a' w' H1 S1 hT1 f1
  refine wpIn_block (wpIn_seq (wpIn_seq (segIn mixed clG_ok none n 99 151 H1 it_calm1 (fun h => hQ h) S1.inv hT1 ?_)))
  rintro ex F2 h2 E2 a2 w2 ⟨hh, hdf, (⟨hex, h0⟩ | ⟨hex, h0, hnt, hl0, hl1, kn, hl24⟩)⟩ S2 hT2 f2
  · simp only at hh hex; subst hh; subst hex
    exact hdone h0 E2 a2 w2 ((S.trans S1).trans S2) (df_nil hT2 hdf) (f2 _ _ (f1 _ _ hL rfl) rfl) (f2 _ _ (f1 _ _ hD rfl) rfl)
  simp only at hh hex hdf hnt hl0 hl1 hl24; subst hh; subst hex
  have hev := eval_sc hT2 hl24
  have hTi : RelT E2 (itF L) a2 := by
    have := hT2.keep [0, 1]
    simp only [List.map_cons, List.map_nil, hl0, hl1, hnt, hdf] at this
    exact this
  have S02 := (S.trans S1).trans S2
  have hL2 := f2 _ _ (f1 _ _ hL rfl) rfl
  have hD2 := f2 _ _ (f1 _ _ hD rfl) rfl
  cases hbad : badO d
  case true =>
    rw [hbad] at hev
    obtain ⟨o, hops, ⟨ts, ho⟩, hg, hd⟩ := it_ops2
    refine wpIn_cond_true hev (wpIn_seq (wpIn_region_list ?_))
    rw [hops]
    refine preIn mixed clG_ok none n 100 151 _ _ (K := fun x => x = (⟨48, (26, zerV) :: (25, .fn (.yield L) [] []) :: (itF L).tm, []⟩, itH d ol)) (by
      have := it_yb L d ol
      unfold callC at this
      rw [this]; rfl) (by kernel_rfl) (fun h => hQ h) S02.inv hTi ?_
    rintro F3 h3 E3 a3 w3 hk S3 hT3 f3
    obtain ⟨rfl, rfl⟩ : F3 = _ ∧ h3 = _ := ⟨congrArg Prod.fst hk, congrArg Prod.snd hk⟩
    have hL3 := f3 _ _ hL2 rfl
    have hD3 := f3 _ _ hD2 rfl
    have S03 := S02.trans S3
    refine yield_two (f := 104) (n := 100) (K := BadK d ol) (F := dcF zerV false) mixed clG_ok ho hg hd (eval_fn hT3 rfl) hL3 rfl rfl rfl hL0 S03.inv rfl (round_tmps (hTd.mono S03.ext) (hT3.tm 26) ⟨rfl, rfl⟩) dc_calmA dc_calmB (bad_holds d ol) ?_
    rintro ex F4 h4 E4 w4 ⟨hex, hcan, hnv⟩ S4 f4
    simp only at hex hcan hnv; subst hex
    refine ⟨(fun h => by cases h.1), fun ⟨_, hl⟩ => ?_⟩
    have Sc := can_step (S03.trans S4) Ib (p := 4) (q := 1) (N := 1000) (ep := 1000) hb4 hb1 hnv hbN hbe
    rw [hcan] at Sc
    exact wpIn_ret (hfail 80 h0 (.inl ⟨hbad, rfl⟩) _ _ _ _ Sc (df_nil (hT3.put1 (t := 27) (av := .any) (v := .bool false) (by show 27 < 48; decide) trivial) rfl) hl (f4 _ _ hLD hD3 rfl))
  rw [hbad] at hev
  refine wpIn_cond_false hev (wpIn_skip ?_)
  show Code.wpIn _ _ _ _ _ _ _
  refine seq_then mixed clG_ok none n 99 151 (K := AdvK L d ol) (adv_holds L hby hbad h0) it_calm3 (fun h => hQ h) S02.inv hTi ?_ ?_
  rotate_left
  · rintro ex F' h' E' a' w' hne ⟨hex, _⟩
    exact absurd hex hne
  intro F3 h3 E3 a3 w3 H3 S3 hT3 f3
  refine wpIn_seq (segIn mixed clG_ok none n 99 151 H3 it_calm4 (fun h => hQ h) S3.inv hT3 ?_)
  rintro ex F4 h4 E4 a4 w4 ⟨hex, hh, hdf4, hnt4, hl40, hl41, hl43⟩ S4 hT4 f4
  simp only at hh hex hdf4 hnt4 hl40 hl41 hl43; subst hh; subst hex
  have hTa : RelT E4 (advF L) a4 := by
    have := hT4.keep [0, 1, 3]
    simp only [List.map_cons, List.map_nil, hl40, hl41, hl43, hnt4, hdf4] at this
    exact this
  have S04 := (S02.trans S3).trans S4
  obtain ⟨o, o2, hops, ⟨ts, ho⟩, hg, hd, ⟨t2, ho2⟩, hg2, hd2⟩ := it_ops5
  show Code.wpIn _ _ _ _ _ _ _
  refine wpIn_seq (wpIn_region_list ?_)
  rw [hops]
  refine preIn mixed clG_ok none n 100 151 _ _ (K := fun x => x = (⟨48, (45, optV d) :: (44, .fn (.yield L) [] []) :: (advF L).tm, []⟩, advH d ol)) (by
    have := it_ya L d ol
    unfold callC at this
    rw [this]; rfl) (by kernel_rfl) (fun h => hQ h) S04.inv hTa ?_
  rintro F5 h5 E5 a5 w5 hk S5 hT5 f5
  obtain ⟨rfl, rfl⟩ : F5 = _ ∧ h5 = _ := ⟨congrArg Prod.fst hk, congrArg Prod.snd hk⟩
  have hL5 := f5 _ _ (f4 _ _ (f3 _ _ hL2 rfl) rfl) rfl
  have hD5 := f5 _ _ (f4 _ _ (f3 _ _ hD2 rfl) rfl) rfl
  have S05 := S04.trans S5
  refine yield_two (f := 104) (n := 100) (K := GoodK d ol) (F := dcF (optV d) true) mixed clG_ok ho hg hd (eval_fn hT5 rfl) hL5 rfl rfl rfl hL0 S05.inv rfl (round_tmps (hTd.mono S05.ext) (hT5.tm 45) ⟨rfl, rfl⟩) dc_calmA dc_calmB (good_holds d hol) ?_
  rintro ex F6 h6 E6 w6 ⟨hnv, (⟨hex, h64, hcan⟩ | ⟨hex, h64, hcan⟩)⟩ S6 f6
  · simp only at hex hcan hnv; subst hex
    refine ⟨(fun h => by cases h.1), fun ⟨_, hl⟩ => ?_⟩
    have Sc := can_step (S05.trans S6) Ib (p := 4) (q := 1) (N := 1000) (ep := 1000) hb4 hb1 hnv hbN hbe
    rw [hcan] at Sc
    have h46 := (hT5.mono S6.ext).put1 (t := 46) (av := .sc false (.bool false)) (v := .bool false) (by show 46 < 48; decide) ⟨rfl, rfl⟩
    refine not_op ho2 hg2 hd2 (eval_sc (kn := false) h46 rfl) ?_
    have h47 := h46.put1 (t := 47) (av := .sc false (.bool true)) (v := .bool true) (by show 47 < 48; decide) ⟨rfl, rfl⟩
    show Code.wpIn _ _ _ _ _ _ _
    exact wpIn_cond_true (eval_sc (kn := false) h47 rfl) (wpIn_ret (hfail 3 h0 (.inr ⟨hbad, h64, rfl⟩) _ _ _ _ Sc (df_nil h47 rfl) hl (f6 _ _ hLD hD5 rfl)))
  · simp only at hex hcan hnv; subst hex
    refine ⟨fun ⟨_, hl, _⟩ => ?_, (fun h => by cases h.1)⟩
    have Sc := can_step (S05.trans S6) Ib (p := 4) (q := 1) (N := 1000) (ep := 1000) hb4 hb1 hnv hbN hbe
    rw [hcan] at Sc
    have h46 := (hT5.mono S6.ext).put1 (t := 46) (av := .sc false (.bool true)) (v := .bool true) (by show 46 < 48; decide) ⟨rfl, rfl⟩
    refine not_op ho2 hg2 hd2 (eval_sc (kn := false) h46 rfl) ?_
    have h47 := h46.put1 (t := 47) (av := .sc false (.bool false)) (v := .bool false) (by show 47 < 48; decide) ⟨rfl, rfl⟩
    show Code.wpIn _ _ _ _ _ _ _
    refine wpIn_cond_false (eval_sc (kn := false) h47 rfl) (wpIn_skip (hnext h0 hbad h64 _ _ _ Sc ?_ hl (f6 _ _ hLD hD5 rfl)))
    exact Tm.can_ok (S05.trans S6).inv h47 [0, 1] 4 1 1000
end
end
end Go.Proofs.YtcambhbmobepjaaGreat

namespace Go.Proofs.YtcambhbmobepjaaGreat
set_option linter.unusedSimpArgs false
set_option linter.unusedVariables false
open Go.RowKit
set_option maxRecDepth 100000
noncomputable section

section
variable {w0 wb : World} {G : Nat → Prop} {Eb : Env} {hb : Hp} {t0 : Array Value} {fn L Dp n : Nat} {Q : Exit → Act → World → Prop}
/-- all rounds -/
theorem dec_loop (Ib : Inv Tryz.prog w0 G Eb hb wb) (hb4 : hb.nx ≤ 4) (hb1 : hb.nv ≤ 1) (hbN : hb.ng ≤ 1000) (hbe : ∀ o, Eb.live o → ver o hb < 1000)
    (hTd : RelT Eb fdT { tmps := t0, defers := [] }) (hL0 : w0.heap.size ≤ L) (hLD : Dp ≠ L) (hQ : ¬ LetsOut Q) : ∀ (m : Nat) (d ol : D) (E : Env) (w : World) (a : Act), d.len ≤ m → bytesB d = true → ol.len ≤ 64 →
    Stepd Tryz.prog w0 G Eb hb wb E (itH d ol) w → RelT E (itF L) a → w.heap[L]? = some (.loop (recD Tryz.prog fn t0 Dp)) → w.heap[Dp]? = some (.deferred (some [])) →
    (∀ E' a' w' d', (decF m d ol).1 = 0 → Stepd Tryz.prog w0 G Eb hb wb E' (itH d' (decF m d ol).2) w' → a'.defers = [] → w'.heap[L]? = some (.loop (recD Tryz.prog fn t0 Dp)) → w'.heap[Dp]? = some (.deferred (some [])) → Q (.exit 0) a' w') →
    (∀ E' a' w' d' ol', (decF m d ol).1 ≠ 0 → Stepd Tryz.prog w0 G Eb hb wb E' (errH (decF m d ol).1 d' ol') w' → a'.defers = [] → w'.heap[L]? = some (.loop { recD Tryz.prog fn t0 Dp with state := .done, pending := some .ret }) → w'.heap[Dp]? = some (.deferred (some [])) → Q .ret a' w') →
    Code.roundsIn (FW none) n Tryz.prog (itX Tryz.prog) Q (m + 1) a w
  | 0, d, ol, E, w, a, hm, hby, hol, S, hT, hL, hD, hdone, hfail => by
    have h0 : d.len = 0 := by omega
    rw [roundsIn_succ]
    exact dec_round Ib hb4 hb1 hbN hbe hTd hL0 hLD hQ hby hol S hT hL hD (fun h => absurd h0 h) (fun _ E' a' w' S' hd' hl' hD' => hdone E' a' w' d rfl S' hd' hl' hD') (fun e h => absurd h0 h)
  | m + 1, d, ol, E, w, a, hm, hby, hol, S, hT, hL, hD, hdone, hfail => by
    rw [roundsIn_succ]
    refine dec_round Ib hb4 hb1 hbN hbe hTd hL0 hLD hQ hby hol S hT hL hD (fun h0 hbad h64 E' a' w' S' hT' hl' hD' => ?_) (fun h0 E' a' w' S' hd' hl' hD' => ?_) (fun e h0 he E' a' w' d' S' hd' hl' hD' => ?_)
    · obtain ⟨g1, g2, g3, _⟩ := good_of hby hbad h0
      have hstep : decF (m + 1) d ol = decF m (advD d) (ol.app (.l [optD d])) := by
        show (if d.len = 0 then _ else if badO d = true then _ else if ol.len = 64 then _ else _) = _
        rw [if_neg h0, if_neg (by rw [hbad]; decide), if_neg h64]
      rw [hstep] at hdone hfail
      have hal : (advD d).len = d.len - (byN d 1).toNat := by
        show (D.sub d _ _).len = _
        rw [Int.toNat_natCast, sub_len (by omega) (Nat.le_refl _)]
      have h1l : (D.l [optD d]).len = 1 := by simp [D.len, D.toL, D.raw, maxLen]
      refine dec_loop Ib hb4 hb1 hbN hbe hTd hL0 hLD hQ m (advD d) _ E' w' a' (by rw [hal]; omega) ?_ ?_ S' hT' hl' hD' hdone hfail
      · show bytesB (D.sub d _ _) = true
        rw [Int.toNat_natCast]
        exact bytes_sub hby (by omega) (Nat.le_refl _)
      · rw [app_len (by rw [h1l]; have : ol.len ≤ 64 := hol; unfold maxLen; omega), h1l]; omega
    · have hz : decF (m + 1) d ol = (0, ol) := decF_nil h0
      rw [hz] at hdone
      exact hdone E' a' w' d rfl S' hd' hl' hD'
    · have hz : decF (m + 1) d ol = (e, ol) := by
        show (if d.len = 0 then _ else if badO d = true then _ else if ol.len = 64 then _ else _) = _
        rw [if_neg h0]
        rcases he with ⟨hbad, rfl⟩ | ⟨hbad, h64, rfl⟩
        · rw [if_pos hbad]
        · rw [if_neg (by rw [hbad]; decide), if_pos h64]
      rw [hz] at hfail
      have he0 : e ≠ 0 := by rcases he with ⟨_, rfl⟩ | ⟨_, _, rfl⟩ <;> decide
      exact hfail E' a' w' d' ol he0 S' hd' hl' hD'
end
def fnOf (P : Program) (f : FuncId) : Option Func := (plainF P f).map (·.1)
theorem it_fn : (fnOf Tryz.prog 151).map (fun fn => (fn.ntmps, fn.results)) = some (48, #[]) := by kernel_rfl
theorem it_body : bodyOf Tryz.prog 151 = .block 0 (.loop (itX Tryz.prog)) := by kernel_rfl
theorem plain_of {P : Program} {f : FuncId} {α : Type} {g : Func → α} {x : α} (h : (fnOf P f).map g = some x) : ∃ fn, plainF P f = some (fn, bodyOf P f) ∧ g fn = x := by
  unfold fnOf at h
  unfold bodyOf
  cases hp : plainF P f with
  | none => rw [hp] at h; cases h
  | some p =>
    obtain ⟨fn, b⟩ := p
    rw [hp] at h
    exact ⟨fn, rfl, Option.some.inj h⟩
/-- the iterator's call -/
theorem it_calls {w0 wb : World} {G : Nat → Prop} {Eb : Env} {hb : Hp} {t0 : Array Value} {fn L Dp n : Nat} {cap : List Value} {d : D} (Ib : Inv Tryz.prog w0 G Eb hb wb) (hb4 : hb.nx ≤ 4) (hb1 : hb.nv = 1) (hbN : hb.ng ≤ 1000) (hbe : ∀ o, Eb.live o → ver o hb < 1000) (hcan : hb.can 4 1 1000 1000 = itH d (.l []))
    (hTd : RelT Eb fdT { tmps := t0, defers := [] }) (hL0 : w0.heap.size ≤ L) (hLD : Dp ≠ L) (hby : bytesB d = true) (hcap : RelL Eb [.ptr 3 0] cap) (hL : wb.heap[L]? = some (.loop (recD Tryz.prog fn t0 Dp))) (hD : wb.heap[Dp]? = some (.deferred (some []))) :
    CallsIn (FW none) n Tryz.prog 151 ((.func (.yield L) #[] #[] :: cap).toArray) wb fun e W => ∃ v pe st E2 h2, e = .returned v ∧ st ≠ .busy ∧ Stepd Tryz.prog w0 G Eb hb wb E2 h2 W ∧ W.heap[L]? = some (.loop { recD Tryz.prog fn t0 Dp with state := st, pending := pe }) ∧ W.heap[Dp]? = some (.deferred (some [])) ∧
      ((pe = none ∧ (decF d.len d (.l [])).1 = 0 ∧ ∃ d', h2 = itH d' (decF d.len d (.l [])).2) ∨ (pe = some .ret ∧ (decF d.len d (.l [])).1 ≠ 0 ∧ ∃ d' ol', h2 = errH (decF d.len d (.l [])).1 d' ol')) := by
  obtain ⟨fi, hp, hfi⟩ := plain_of it_fn
  have hnt : fi.ntmps = 48 := congrArg Prod.fst hfi
  have hres : fi.results = #[] := congrArg Prod.snd hfi
  obtain ⟨hf, hbd⟩ := plainF_ok hp
  rw [it_body] at hbd
  have Sc := can_step (Stepd.refl Ib) Ib (p := 4) (q := 1) (N := 1000) (ep := 1000) hb4 (by omega) (by omega) hbN hbe
  rw [hcan] at Sc
  have hr : RelL (Eb.ren (List.range 4) (List.range 1) 1000) [.fn (.yield L) [] [], .ptr 3 0] (.func (.yield L) #[] #[] :: cap) :=
    ⟨_, _, rfl, ⟨#[], #[], rfl, rfl, rfl⟩, ren_relL (os := List.range 4) (ks := List.range 1) (g0 := 1000) Ib _ _ hcap⟩
  have hTi := enterA_ok (fn := fi) hr (by rw [hnt]; exact Nat.le_of_ble_eq_true rfl)
  unfold enterA at hTi
  rw [hnt] at hTi
  have hl0 : (D.l []).len ≤ 64 := by simp [D.len, D.toL, D.raw]
  refine callsIn_of_wp hf hbd trivial ?_
  rw [hnt]
  refine wpIn_block (wpIn_loop_rounds (d.len + 1) ?_)
  refine dec_loop (Q := Exit.inBlock 0 _) Ib hb4 (by omega) hbN hbe hTd hL0 hLD ?_ d.len d (.l []) _ wb _ (Nat.le_refl _) hby hl0 Sc hTi hL hD ?_ ?_
  · rintro ⟨_, _, h⟩
    obtain ⟨v, _, _, _, _, he, _⟩ := h
    cases he
  · intro E' a' w' d' h0 S hd hl hD'
    exact ⟨hd, _, results_none hres _ _ _, _, none, .ready, E', _, rfl, (by decide), S, hl, hD', .inl ⟨rfl, h0, d', rfl⟩⟩
  · intro E' a' w' d' ol' h0 S hd hl hD'
    exact ⟨hd, _, results_none hres _ _ _, _, some .ret, .done, E', _, rfl, (by decide), S, hl, hD', .inr ⟨rfl, h0, d', ol', rfl⟩⟩
end
end Go.Proofs.YtcambhbmobepjaaGreat

namespace Go.Proofs.YtcambhbmobepjaaGreat
set_option linter.unusedSimpArgs false
set_option linter.unusedVariables false
open Go.RowKit
set_option maxRecDepth 100000
noncomputable section

/-- operations, an activation's put off calls set aside -/
def withD (ds : List Deferred) (Q : Exit → Act → World → Prop) : Exit → Act → World → Prop := fun e a w => ∃ a0 : Act, a = { a0 with defers := ds } ∧ Q e a0 w
/-- loads and stores alone -/
def plainOps (l : List Oper) : Bool := l.all fun o => match o.op with | .load .. => true | .store .. => true | _ => false
theorem plain_noDef {l : List Oper} (h : plainOps l = true) : noDef l = true := by
  refine List.all_eq_true.2 fun o ho => ?_
  have := List.all_eq_true.1 h o ho
  revert this
  cases o.op <;> simp
theorem plain_exec {P : Program} {a : Act} {w w' : World} {o : Oper} {d : Deferred} (h : (match o.op with | .load .. => true | .store .. => true | _ => false) = true) : (execOp a.eval o).run P w ≠ .ok (.defer d) w' := by
  obtain ⟨dst, op, type, pos, after, guard⟩ := o
  intro hr
  cases op <;> first | (cases h; done) | skip
  case load t x =>
    simp only [execOp, Sem.run_bind, Sem.run_pure] at hr
    revert hr
    generalize (Instr.loadAt t (a.eval x)).run P w = res
    intro hr
    cases res <;> simp [Result.andThen] at hr
  case store t x y =>
    simp only [execOp, Sem.run_bind, Sem.run_pure] at hr
    revert hr
    generalize (Instr.storeAt t (a.eval x) (a.eval y)).run P w = res
    intro hr
    cases res <;> simp [Result.andThen] at hr
theorem list_def {P : Program} {r : Option Nat} {m : Nat} {ops : Array Oper} {Q : Exit → Act → World → Prop} (ds : List Deferred) (hQ : ¬ LetsOut Q) : ∀ (l : List Oper) (a : Act) (w : World), plainOps l = true → wpListIn (FW r) m P ops Q l a w → wpListIn (FW r) m P ops (withD ds Q) l { a with defers := ds } w
  | [], a, _, _, h => ⟨a, rfl, h⟩
  | o :: l, a, w, hd, h => by
    have hd' : plainOps l = true := by
      have h := hd
      simp only [plainOps, List.all_cons, Bool.and_eq_true] at h
      exact h.2
    have hput : ∀ v, ({ a with defers := ds } : Act).put o.dst v = { a.put o.dst v with defers := ds } := fun v => by unfold Act.put; split <;> rfl
    have hev : ({ a with defers := ds } : Act).eval = a.eval := by funext x; cases x <;> rfl
    have go : ∀ v W, wpListIn (FW r) m P ops Q l (a.put o.dst v) W → wpListIn (FW r) m P ops (withD ds Q) l (({ a with defers := ds } : Act).put o.dst v) W := fun v W h => by
      rw [hput]; exact list_def ds hQ l _ _ hd' h
    unfold wpListIn at h
    unfold wpListIn
    split
    · rename_i hw
      rw [if_pos hw] at h
      refine ⟨fun _ _ => trivial, ?_⟩
      rw [hev]
      have h2 := h.2
      have hnd := noDef_ne (plain_noDef hd) (List.mem_cons_self ..)
      rw [Oper.semAt_eq _ _ _ hnd] at h2 ⊢
      revert h2
      generalize hres : (execOp a.eval o).run P w = res
      intro h2
      cases res with
      | ok nx w' => cases nx with
        | value v => exact go _ _ h2
        | skip => exact go _ _ h2
        | defer d => exact absurd hres (plain_exec (List.all_eq_true.1 hd o (List.mem_cons_self ..)))
        | enter f args => exact ⟨h2.1, h2.2.mono fun e w hh => by cases e with
            | returned v => exact go _ _ hh
            | panicked c => exact ⟨a, rfl, hh⟩
            | outgrown => exact absurd hh hQ⟩
        | row row args => exact ⟨h2.1, h2.2.mono fun v w hh => go _ _ hh⟩
        | round l' f tmps asg bd => exact ⟨h2.1, h2.2.mono fun e w hh => by cases e with
            | returned v => exact go _ _ hh
            | panicked c => exact ⟨a, rfl, hh⟩
            | outgrown => exact absurd hh hQ⟩
        | recover => exact h2.elim
        | spawn => exact h2.elim
        | comm => exact h2.elim
        | numGoroutine => exact h2.elim
        | collect => exact h2.elim
        | watch => exact h2.elim
        | newcoro => exact h2.elim
        | coroswitch => exact h2.elim
        | sleep => exact h2.elim
        | timer => exact h2.elim
        | alone => exact h2.elim
        | callThen => exact h2.elim
        | stack => exact h2.elim
      | halt s w' => cases s with
        | panic v => exact ⟨a, rfl, h2⟩
        | blocked => exact h2.elim
        | waiting => exact h2.elim
        | exit c => exact h2.elim
        | fatal m => exact h2.elim
        | throw m => exact h2.elim
        | goexit => exact h2.elim
        | stuck m => exact h2.elim
        | unsupported m => exact h2.elim
    · rename_i hw
      rw [if_neg hw] at h
      exact ⟨fun _ _ => trivial, go _ _ h.2⟩
theorem dc_code : dcB Tryz.prog = .seq (sL (dcB Tryz.prog)) (.seq (sL (sR (dcB Tryz.prog))) (.seq (sL (sR (sR (dcB Tryz.prog)))) (.seq (.seq (sL (sL (sR (sR (sR (dcB Tryz.prog)))))) (.block 0 (.rangeFunc (.tmp 11) #[12, 13] (rfA (dcR Tryz.prog)) (rfB (dcR Tryz.prog))))) (.seq (.region 12 (arrO (sL (sR (sR (sR (sR (dcB Tryz.prog))))))) false) .ret)))) := by kernel_rfl
theorem dc_calm0 : calmC (sL (dcB Tryz.prog)) = true := by kernel_rfl
theorem dc_calm1 : calmC (sL (sR (dcB Tryz.prog))) = true := by kernel_rfl
theorem dc_calm3 : calmC (sL (sR (sR (dcB Tryz.prog)))) = true := by kernel_rfl
theorem dc_calm4 : calmC (sL (sL (sR (sR (sR (dcB Tryz.prog)))))) = true := by kernel_rfl
theorem dc_plain12 : plainOps (arrO (sL (sR (sR (sR (sR (dcB Tryz.prog))))))).toList = true := by kernel_rfl
theorem dc_reg12 : sL (sR (sR (sR (sR (dcB Tryz.prog))))) = .region 12 (arrO (sL (sR (sR (sR (sR (dcB Tryz.prog))))))) false := by kernel_rfl
theorem dc_fn : (fnOf Tryz.prog 104).map (fun fn => (fn.ntmps, fn.results)) = some (24, #[.cell 2 25, .cell 3 34]) := by kernel_rfl
/-- what is decoded -/
def decE (d : D) : Int := if 1488 < d.len then 2 else (decF d.len d (.l [])).1
def decO (d : D) : D := if decE d = 0 then (decF d.len d (.l [])).2 else .l []
/-- the two results -/
theorem two_res {E : Env} {F : Tm} {h : Hp} {w w0 : World} {G : Nat → Prop} {a : Act} {fn : Func} {x y : AV} (hres : fn.results = #[.cell 2 25, .cell 3 34]) (I : Inv Tryz.prog w0 G E h w) (hT : RelT E F a) (h2 : look 2 F.tm = .ptr 0 0) (h3 : look 3 F.tm = .ptr 1 0) (o0 : lookO 0 h.ob = some [x]) (o1 : lookO 1 h.ob = some [y]) (i0 : isVar [x] = true) (i1 : isVar [y] = true) :
    ∃ v, Rel E (.tup [x, y]) v ∧ (results fn a.tmps).run Tryz.prog w = .ok v w := by
  have key : resultA Tryz.prog fn F h = .ok (.tup [x, y], h) := by
    have s1 : sizeT Tryz.prog 25 = some 1 := by kernel_rfl
    have s2 : sizeT Tryz.prog 34 = some 1 := by kernel_rfl
    have u1 : (Tryz.prog.underlying 25).map (·.isRow) = some false := by kernel_rfl
    have u2 : (Tryz.prog.underlying 34).map (·.isRow) = some false := by kernel_rfl
    obtain ⟨t1, g1, g2⟩ := Option.map_eq_some_iff.1 u1
    obtain ⟨t2, g3, g4⟩ := Option.map_eq_some_iff.1 u2
    unfold resultA
    rw [hres]
    simp only [resA, loadA, h2, h3, o0, o1, i0, i1, s1, s2, g1, g2, g3, g4, cond_true, cond_false, RT.bind]
    rfl
  obtain ⟨r, v, k1, k2, k3⟩ := resultA_ok (K := fun p => p = (.tup [x, y], h)) (by rw [key]; exact rfl) I hT
  rw [show r = .tup [x, y] from congrArg Prod.fst k1] at k2
  exact ⟨v, k2, k3⟩
end
end Go.Proofs.YtcambhbmobepjaaGreat

namespace Go.Proofs.YtcambhbmobepjaaGreat
set_option linter.unusedSimpArgs false
set_option linter.unusedVariables false
open Go.RowKit
set_option maxRecDepth 100000
noncomputable section

abbrev preH (d : D) : Hp := ⟨[(3, [asl byS d]), (2, [.sc true (.slice none 0 0)]), (1, [.sc true (.int .i64 0)]), (0, [.sc true (.slice none 0 0)])], 4, [], 0, 0, 0⟩
/-- what is seen behind the parts ahead of the rounds -/
def PreK (d : D) (o : Out) : Prop := o.2.1.df = [] ∧ look 2 o.2.1.tm = .ptr 0 0 ∧ look 3 o.2.1.tm = .ptr 1 0 ∧
  ((o.1 = .ret ∧ 1488 < d.len ∧ lookO 0 o.2.2.ob = some [.sc true (.slice none 0 0)] ∧ lookO 1 o.2.2.ob = some [.sc true (.int .i64 2)]) ∨
   (o.1 = .normal ∧ d.len ≤ 1488 ∧ o.2.2 = preH d ∧ o.2.1.nt = 24 ∧ look 4 o.2.1.tm = .ptr 2 0 ∧ look 11 o.2.1.tm = .fn (.func 151) [] [.ptr 3 0]))
theorem pre_holds (d : D) : (evC Tryz.prog (gam (clG Tryz.prog)) (lam []) 100 104 (.seq (sL (dcB Tryz.prog)) (.seq (sL (sR (dcB Tryz.prog))) (.seq (sL (sR (sR (dcB Tryz.prog)))) (sL (sL (sR (sR (sR (dcB Tryz.prog))))))))) ⟨24, [(0, asl byS d)], []⟩ hp0).holds (PreK d) := by
  rw [dc_pre]
  refine ⟨fun h => ⟨rfl, rfl, rfl, .inl ⟨rfl, ?_, rfl, rfl⟩⟩, fun h => ⟨rfl, rfl, rfl, .inr ⟨rfl, ?_, rfl, rfl, rfl, rfl⟩⟩⟩
  · have := of_decide_eq_true h; omega
  · have := of_decide_eq_false h; omega
def decS : Spec := fun args h => match args, h with
  | [.sl _ [.int .u8] d _], ⟨[], 0, [], 0, 0, 0⟩ => need false (bytesB d) 251 (.ok (.tup [asl opS (decO d), ai (decE d)], hp0))
  | _, _ => .bad 252
theorem decE_long {d : D} (h : 1488 < d.len) : decE d = 2 := by unfold decE; rw [if_pos h]
theorem decE_of {d : D} (h : d.len ≤ 1488) : decE d = (decF d.len d (.l [])).1 := by unfold decE; rw [if_neg (by omega)]
theorem decO_err {d : D} (h : decE d ≠ 0) : decO d = .l [] := by unfold decO; rw [if_neg h]
theorem decO_ok {d : D} (h : decE d = 0) : decO d = (decF d.len d (.l [])).2 := by unfold decO; rw [if_pos h]
theorem itplain : (plainF Tryz.prog 151).isSome = true := by kernel_rfl
theorem actD {a : Act} (h : a.defers = []) : ({ tmps := a.tmps, defers := [] } : Act) = a := by cases a; simp only at h; subst h; rfl
theorem dec_soundS : SoundF Tryz.prog 104 decS := by
  intro args h K H w0 G E w vals I hr
  unfold decS at H
  split at H
  rotate_left
  · exact H.elim
  rename_i kn d tip
  obtain ⟨hby, H⟩ := need_holds H
  obtain ⟨fD, hp, hfD⟩ := plain_of dc_fn
  have hnt : fD.ntmps = 24 := congrArg Prod.fst hfD
  have hres : fD.results = #[.cell 2 25, .cell 3 34] := congrArg Prod.snd hfD
  obtain ⟨hf, hbd⟩ := plainF_ok hp
  have hr1 : RelL E [asl byS d] vals := by
    obtain ⟨v, vs, rfl, ⟨h1, _⟩, h2⟩ := hr
    exact ⟨v, vs, rfl, ⟨h1, trivial⟩, h2⟩
  have hT0 := enterA_ok (fn := fD) hr1 (by rw [hnt]; exact Nat.le_of_ble_eq_true rfl)
  unfold enterA at hT0
  rw [hnt] at hT0
  have hlv : ∀ o, ¬ E.live o := fun o ho => by have := (I.live o).1 ho; cases this
  have fin : ∀ {E' : Env} {F' : Tm} {h' : Hp} {w1 w2 : World} {a' : Act} {x y : AV}, Stepd Tryz.prog w0 G E hp0 w E' h' w2 → RelT E' F' a' → look 2 F'.tm = .ptr 0 0 → look 3 F'.tm = .ptr 1 0 → lookO 0 h'.ob = some [x] → lookO 1 h'.ob = some [y] → isVar [x] = true → isVar [y] = true → Le (ren [] [] 0 h'.gn (.tup [x, y])) (.tup [asl opS (decO d), ai (decE d)]) →
      ∃ v, (results fD a'.tmps).run Tryz.prog w2 = .ok v w2 ∧ ∃ r h' v' E', K (r, h') ∧ Ending.returned v = .returned v' ∧ Stepd Tryz.prog w0 G E hp0 w E' h' w2 ∧ Rel E' r v' := by
    intro E' F' h' w1 w2 a' x y S hT h2 h3 o0 o1 i0 i1 hle
    obtain ⟨v, hv, hrun⟩ := two_res hres S.inv hT h2 h3 o0 o1 i0 i1
    have Sc := can_step S I (p := 0) (q := 0) (N := 0) (ep := 0) (Nat.le_refl _) (Nat.le_refl _) (Nat.zero_le _) (Nat.le_refl _) (fun o ho => absurd ho (hlv o))
    exact ⟨v, hrun, _, hp0, v, _, H, rfl, Sc, hle _ _ (ren_rel (os := List.range 0) (ks := List.range 0) (g0 := 0) S.inv _ _ hv)⟩
  have errLe : ∀ {gn : List (Nat × Nat × TypeId)} {k1 k2 : Bool} {e : Int}, decE d = e → e ≠ 0 → Le (ren [] [] 0 gn (.tup [.sc k1 (.slice none 0 0), .sc k2 (.int .i64 e)])) (.tup [asl opS (decO d), ai (decE d)]) := fun he h0 =>
    le_two (le_nil (by rw [decO_err (by rw [he]; exact h0)]; simp [D.len, D.toL, D.raw])) (le_int he.symm)
  refine ofCallsFW (r := none) (n := 0) (callsIn_of_wp_marks hf hbd trivial ?_)
  rw [hnt]
  show Code.wpIn _ _ _ (dcB Tryz.prog) _ _ _
  rw [dc_code]
  have hQ : ¬ LetsOut (bodyPostM (FW none) 0 Tryz.prog fD fun e w' => ∃ r h' v E', K (r, h') ∧ e = .returned v ∧ Stepd Tryz.prog w0 G E hp0 w E' h' w' ∧ Rel E' r v) := by
    rintro ⟨_, _, h⟩
    obtain ⟨_, _, _, _, _, he, _⟩ := h
    cases he
  have early : ∀ {ex : Ex} {F' : Tm} {h' : Hp} {E' : Env} {a' : Act} {w' : World}, ex ≠ .normal → PreK d (ex, F', h') → Stepd Tryz.prog w0 G E hp0 w E' h' w' → RelT E' F' a' → bodyPostM (FW none) 0 Tryz.prog fD (fun e w' => ∃ r h' v E', K (r, h') ∧ e = .returned v ∧ Stepd Tryz.prog w0 G E hp0 w E' h' w' ∧ Rel E' r v) ex.to a' w' := by
    rintro ex F' h' E' a' w' hne ⟨hdf, h2, h3, (⟨hex, hlen, o0, o1⟩ | ⟨hex, _⟩)⟩ S hT
    · simp only at hex hdf h2 h3 o0 o1; subst hex
      show LeavesInM _ _ _ _ _ _ a'.defers _ _
      rw [df_nil hT hdf]
      exact fin (w1 := w) S hT h2 h3 o0 o1 rfl rfl (errLe (decE_long hlen) (by decide))
    · exact absurd hex hne
  refine seq_then mixed clG_ok none 0 99 104 (K := PreK d) (pre_holds d) dc_calm0 hQ I hT0 ?_ (fun ex F' h' E' a' w' hne hk S hT _ => early hne hk S hT)
  intro F1 h1 E1 a1 w1 H1 S1 hT1 _
  refine seq_then mixed clG_ok none 0 98 104 (K := PreK d) H1 dc_calm1 hQ S1.inv hT1 ?_ (fun ex F' h' E' a' w' hne hk S hT _ => early hne hk (S1.trans S) hT)
  intro F2 h2 E2 a2 w2 H2 S2 hT2 _
  have S02 := S1.trans S2
  refine seq_then mixed clG_ok none 0 97 104 (K := PreK d) H2 dc_calm3 hQ S02.inv hT2 ?_ (fun ex F' h' E' a' w' hne hk S hT _ => early hne hk (S02.trans S) hT)
  intro F3 h3 E3 a3 w3 H3 S3 hT3 _
  have S03 := S02.trans S3
  refine wpIn_seq (wpIn_seq (segIn mixed clG_ok none 0 97 104 H3 dc_calm4 (fun h => hQ h) S03.inv hT3 ?_))
  intro ex F4 h4 E4 a4 w4 hk S4 hT4 _
  have S04 := S03.trans S4
  cases hex : ex with
  | exit id => subst hex; exact early (ex := .exit id) (by simp) hk S04 hT4
  | ret => subst hex; exact early (ex := .ret) (by simp) hk S04 hT4
  | normal =>
  subst hex
  obtain ⟨hdf, hl2, hl3, (⟨hex, _⟩ | ⟨_, hlen, hh, hnt4, hl4, hl11⟩)⟩ := hk
  · cases hex
  simp only at hh hdf hl2 hl3 hnt4 hl4 hl11; subst hh
  show Code.wpIn _ _ _ (.block 0 _) _ _ _
  obtain ⟨E5, S5, hT5⟩ := proO_ok (e := 92) (o := 2) (i := 0) S04.inv hT4
  have hpro : proO Tryz.prog 92 2 0 (F4, preH d) = (F4, ⟨(2, [.sl false opS (.l []) (some (0, 0))]) :: (preH d).ob, 4, [(0, 0, 92)], 1, 1, 0⟩) := by kernel_rfl
  rw [hpro] at S5 hT5
  have S05 := S04.trans S5
  have had := df_nil hT5 hdf
  refine wpIn_block (rangeIn (gf := 151) (Kk := fun pe h2 => (pe = none ∧ (decF d.len d (.l [])).1 = 0 ∧ ∃ d', h2 = itH d' (decF d.len d (.l [])).2) ∨ (pe = some .ret ∧ (decF d.len d (.l [])).1 ≠ 0 ∧ ∃ d' ol', h2 = errH (decF d.len d (.l [])).1 d' ol')) mixed itplain hl11 S05.inv hT5 ?_ ?_ ?_)
  · intro fn L Dp w6 E6 cap' S6 _ hL0 hD0 hDL hL hD hcap hT6
    have hlive : ∀ o, E6.live o → ver o (⟨(2, [.sl false opS (.l []) (some (0, 0))]) :: (preH d).ob, 4, [(0, 0, 92)], 1, 1, 0⟩ : Hp) < 1000 := fun o _ => by
      have := cnt_le o ((2, [.sl false opS (.l []) (some (0, 0))]) :: (preH d).ob)
      show 0 + cnt o ((2, [AV.sl false opS (.l []) (some (0, 0))]) :: (preH d).ob) < 1000
      have h5 : ((2, [AV.sl false opS (.l []) (some (0, 0))]) :: (preH d).ob).length = 5 := rfl
      rw [h5] at this; omega
    have hTd : RelT E6 fdT { tmps := a4.tmps, defers := [] } := by
      rw [actD had]
      have := hT6.keep [2, 3, 4]
      simp only [List.map_cons, List.map_nil, hl2, hl3, hl4, hnt4, hdf] at this
      exact this
    refine (it_calls (n := 0 - 1) S6.inv (by exact Nat.le_refl _) rfl (by show 1 ≤ 1000; decide) hlive (by kernel_rfl) hTd hL0 hDL hby hcap hL hD).mono ?_
    rintro e W ⟨v, pe, st, E7, h7, rfl, hst, S7, hl, hd, hK⟩
    refine ⟨v, pe, st, E7, h7, rfl, hst, S7, hl, hd, hK, ?_⟩
    rcases hK with ⟨rfl, _⟩ | ⟨rfl, _⟩
    · exact .inl rfl
    · exact .inr rfl
  · rintro Dp E7 h7 W (⟨_, h0, d', rfl⟩ | ⟨hc, _⟩) S7 hD0 hD
    rotate_left
    · cases hc
    have S07 := S05.trans S7
    rw [had]
    show Code.wpIn _ _ _ _ _ _ _
    refine wpIn_seq ?_
    have hTe : RelT E7 ⟨24, [(2, .ptr 0 0), (3, .ptr 1 0), (4, .ptr 2 0)], []⟩ a4 := by
      have := (hT5.mono S7.ext).keep [2, 3, 4]
      simp only [List.map_cons, List.map_nil, hl2, hl3, hl4, hnt4, hdf] at this
      exact this
    have hcall := callE_ok mixed.2 (codeOk mixed (gam_ok clG_ok) (lam_ok (l := []) trivial) 99).1 (gam_ok clG_ok) (lam_ok (l := []) trivial)
    have hno : ∀ (R : Act → World → Prop), ¬ LetsOut (fun e a w => e = Exit.normal ∧ R a w) := fun R ⟨_, _, h, _⟩ => by cases h
    have hend := dc_end d' (decF d.len d (.l [])).2
    rw [dc_reg12] at hend
    unfold evC at hend
    simp only at hend
    have hlist : (evList Tryz.prog (callE Tryz.prog (gam (clG Tryz.prog)) (evC Tryz.prog (gam (clG Tryz.prog)) (lam []) 99)) (arrO (sL (sR (sR (sR (sR (dcB Tryz.prog))))))) (arrO (sL (sR (sR (sR (sR (dcB Tryz.prog))))))).toList ⟨24, [(2, .ptr 0 0), (3, .ptr 1 0), (4, .ptr 2 0)], []⟩ (itH d' (decF d.len d (.l [])).2)).holds fun r => look 2 r.1.tm = .ptr 0 0 ∧ look 3 r.1.tm = .ptr 1 0 ∧ lookO 0 r.2.ob = some [shO (decF d.len d (.l [])).2] ∧ lookO 1 r.2.ob = some [.sc true (.int .i64 0)] := by
      have hx : (RT.bind (evList Tryz.prog (callE Tryz.prog (gam (clG Tryz.prog)) (evC Tryz.prog (gam (clG Tryz.prog)) (lam []) 99)) (arrO (sL (sR (sR (sR (sR (dcB Tryz.prog))))))) (arrO (sL (sR (sR (sR (sR (dcB Tryz.prog))))))).toList ⟨24, [(2, .ptr 0 0), (3, .ptr 1 0), (4, .ptr 2 0)], []⟩ (itH d' (decF d.len d (.l [])).2)) fun r => RT.ok (Ex.normal, r.1, r.2)).holds fun o => look 2 o.2.1.tm = .ptr 0 0 ∧ look 3 o.2.1.tm = .ptr 1 0 ∧ lookO 0 o.2.2.ob = some [shO (decF d.len d (.l [])).2] ∧ lookO 1 o.2.2.ob = some [.sc true (.int .i64 0)] := by
        rw [hend]; exact ⟨rfl, rfl, rfl, rfl⟩
      rw [RT.holds_bind] at hx; exact hx
    refine Go.wpIn_mono (wpIn_region_list (list_def [markD Dp] (Q := fun e a' w' => e = .normal ∧ ∃ E8 F8 h8, Stepd Tryz.prog w0 G E hp0 w E8 h8 w' ∧ FarK W w' ∧ RelT E8 F8 a' ∧ look 2 F8.tm = .ptr 0 0 ∧ look 3 F8.tm = .ptr 1 0 ∧ lookO 0 h8.ob = some [shO (decF d.len d (.l [])).2] ∧ lookO 1 h8.ob = some [.sc true (.int .i64 0)]) (hno _) _ a4 W dc_plain12 (listIn (hno _) _ _ _ (plain_noDef dc_plain12) (evList_ok (w0 := W) (G := E7.mine) hcall _ hlist S07.inv.top hTe fun F8 h8 E8 a8 w8 hk S8 hT8 => ⟨rfl, E8, F8, h8, S07.trans (S8.under S07.inv), far_kept S07.inv S8, hT8, hk⟩)))) ?_
    rintro e a' w' ⟨a0, rfl, rfl, E8, F8, h8, S8, f8, hT8, g2, g3, o0, o1⟩
    have hD8 := f8 _ _ hD rfl
    have St := S8.inv.turn hD8 rfl hD0 (.deferred none)
    show Code.wpIn _ _ _ _ _ _ _
    refine wpIn_ret ?_
    show LeavesInM _ _ _ _ _ _ _ _ _
    refine leaves_mark hD8 (fin (w1 := w) (a' := a0) (S8.trans St) hT8 g2 g3 o0 o1 rfl rfl ?_)
    have he : decE d = 0 := (decE_of hlen).trans h0
    have hren : ren [] [] 0 h8.gn (.tup [shO (decF d.len d (.l [])).2, .sc true (.int .i64 0)]) = .tup [.sl false opS (decF d.len d (.l [])).2 none, .sc true (.int .i64 0)] := rfl
    rw [hren]
    exact le_two (le_sl (by rw [decO_ok he]) fun i _ => by rw [decO_ok he]; exact eqEl_refl _ _ _) (le_int he.symm)
  · rintro Dp E7 h7 W (⟨hc, _⟩ | ⟨_, h0, d', ol', rfl⟩) S7 hD0 hD
    · cases hc
    have S07 := S05.trans S7
    rw [had]
    have St := S07.inv.turn hD rfl hD0 (.deferred none)
    show LeavesInM _ _ _ _ _ _ _ _ _
    exact leaves_mark hD (fin (w1 := w) (a' := a4) (S07.trans St) (hT5.mono S7.ext) hl2 hl3 rfl rfl rfl rfl (errLe (decE_of hlen) h0))
end
end Go.Proofs.YtcambhbmobepjaaGreat

namespace Go.Proofs.YtcambhbmobepjaaGreat
set_option linter.unusedSimpArgs false
set_option linter.unusedVariables false
open Go.RowKit
set_option maxRecDepth 100000
noncomputable section

-- DEFS
def FDec : List AV → RT AV
  | [.sl false [.int .u8] d none] => need false (bytesB d) 251 (.ok (.tup [asl opS (decO d), ai (decE d)]))
  | _ => .bad 253
-- END
-- STOPS: bytesB decO decE
theorem dec_soundF : SoundF Tryz.prog 104 (pureS Tryz.prog 104 FDec) := by
  refine pureS_tree dec_soundS fun args K ho H => ?_
  unfold FDec at H
  split at H
  · rename_i d
    obtain ⟨hb, H⟩ := need_holds H
    exact ⟨fun _ => ⟨_, Le.refl _, H⟩, fun h => by rw [hb] at h; cases h⟩
  · exact H.elim
end
end Go.Proofs.YtcambhbmobepjaaGreat

namespace Go.Proofs.YtcambhbmobepjaaGreat
set_option linter.unusedSimpArgs false
set_option linter.unusedVariables false
open Go.RowKit
set_option maxRecDepth 10000
noncomputable section

section force
variable {α : Type}
def fN (n : Nat) (K : Nat → α) : α := @Nat.rec (fun _ => α) (K 0) (fun p _ => K (Nat.succ p)) n
theorem fN_eq (n : Nat) (K : Nat → α) : fN n K = K n := by cases n <;> rfl
def fI (n : Int) (K : Int → α) : α := @Int.rec (fun _ => α) (fun m => fN m fun m => K (.ofNat m)) (fun m => fN m fun m => K (.negSucc m)) n
theorem fI_eq : ∀ (n : Int) (K : Int → α), fI n K = K n
  | .ofNat m, K => fN_eq m fun m => K (.ofNat m)
  | .negSucc m, K => fN_eq m fun m => K (.negSucc m)
def fB (b : Bool) (K : Bool → α) : α := @Bool.rec (fun _ => α) (K false) (K true) b
theorem fB_eq (b : Bool) (K : Bool → α) : fB b K = K b := by cases b <;> rfl
def fBs (l : List UInt8) : (List UInt8 → α) → α := @List.rec UInt8 (fun _ => (List UInt8 → α) → α) (fun K => K []) (fun b _ ih K => fN b.toNat fun n => ih fun l => K (UInt8.ofNat n :: l)) l
theorem fBs_eq : ∀ (l : List UInt8) (K : List UInt8 → α), fBs l K = K l
  | [], _ => rfl
  | b :: l, K => by
    show fN b.toNat (fun n => fBs l fun l => K (UInt8.ofNat n :: l)) = _
    rw [fN_eq, fBs_eq l, UInt8.ofNat_toNat]
def fS (s : ByteArray) (K : ByteArray → α) : α := fBs s.data.toList fun l => K ⟨⟨l⟩⟩
theorem fS_eq (s : ByteArray) (K : ByteArray → α) : fS s K = K s := fBs_eq _ _
def fV (v : Value) (K : Value → α) : α := match v with
  | .int k n => fI n fun n => K (.int k n)
  | .bool b => fB b fun b => K (.bool b)
  | .string s => fS s fun s => K (.string s)
  | v => K v
theorem fV_eq (v : Value) (K : Value → α) : fV v K = K v := by
  unfold fV
  split
  · exact fI_eq _ _
  · exact fB_eq _ _
  · exact fS_eq _ _
  · rfl
def fD (d : D) : (D → α) → α := @D.rec (fun _ => (D → α) → α) (fun _ => (List D → α) → α) (fun K => K .n) (fun v K => K (.i v)) (fun v K => K (.b v)) (fun v K => K (.s v)) (fun _ ih K => ih fun v => K (.l v)) (fun _ ih K => ih fun v => K (.t v))
  (fun v K => fI v fun v => K (.ki v)) (fun v K => fB v fun v => K (.kb v)) (fun v K => fS v fun v => K (.ks v)) (fun _ ih K => ih fun v => K (.kl v)) (fun K => K []) (fun _ _ ih ihs K => ih fun x => ihs fun xs => K (x :: xs)) d
def fDL (l : List D) : (List D → α) → α := @List.rec D (fun _ => (List D → α) → α) (fun K => K []) (fun x _ ih K => fD x fun x => ih fun xs => K (x :: xs)) l
mutual
theorem fD_eq : ∀ (d : D) (K : D → α), fD d K = K d
  | .n, _ => rfl
  | .i _, _ => rfl
  | .b _, _ => rfl
  | .s _, _ => rfl
  | .l v, K => fDL_eq v fun v => K (.l v)
  | .t v, K => fDL_eq v fun v => K (.t v)
  | .ki v, K => fI_eq v fun v => K (.ki v)
  | .kb v, K => fB_eq v fun v => K (.kb v)
  | .ks v, K => fS_eq v fun v => K (.ks v)
  | .kl v, K => fDL_eq v fun v => K (.kl v)
theorem fDL_eq : ∀ (l : List D) (K : List D → α), @D.rec_1 (fun _ => (D → α) → α) (fun _ => (List D → α) → α) (fun K => K .n) (fun v K => K (.i v)) (fun v K => K (.b v)) (fun v K => K (.s v)) (fun _ ih K => ih fun v => K (.l v)) (fun _ ih K => ih fun v => K (.t v))
  (fun v K => fI v fun v => K (.ki v)) (fun v K => fB v fun v => K (.kb v)) (fun v K => fS v fun v => K (.ks v)) (fun _ ih K => ih fun v => K (.kl v)) (fun K => K []) (fun _ _ ih ihs K => ih fun x => ihs fun xs => K (x :: xs)) l K = K l
  | [], _ => rfl
  | x :: xs, K => by
    show fD x (fun x => _) = _
    rw [fD_eq x]
    exact fDL_eq xs fun xs => K (x :: xs)
end
/-- a list's spine -/
def fSp {β : Type} (l : List β) : (List β → α) → α := @List.rec β (fun _ => (List β → α) → α) (fun K => K []) (fun x _ ih K => ih fun xs => K (x :: xs)) l
theorem fSp_eq {β : Type} : ∀ (l : List β) (K : List β → α), fSp l K = K l
  | [], _ => rfl
  | x :: l, K => fSp_eq l fun l => K (x :: l)
def fDm (m : Bool) (d : D) (K : D → α) : α := bif m then fD d K else K d
theorem fDm_eq (m : Bool) (d : D) (K : D → α) : fDm m d K = K d := by cases m <;> first | rfl | exact fD_eq _ _
def fTip (t : Option (Nat × Nat)) (K : Option (Nat × Nat) → α) : α := match t with
  | some (k, g) => fN k fun k => fN g fun g => K (some (k, g))
  | none => K none
theorem fTip_eq (t : Option (Nat × Nat)) (K : Option (Nat × Nat) → α) : fTip t K = K t := by
  cases t with
  | none => rfl
  | some p => obtain ⟨k, g⟩ := p; show fN k (fun k => fN g fun g => K (some (k, g))) = _; rw [fN_eq, fN_eq]
/-- a value, laid out; m: all of it -/
def fA (m : Bool) (x : AV) : (AV → α) → α := @AV.rec (fun _ => (AV → α) → α) (fun _ => (List AV → α) → α) (fun K => K .any) (fun kn v K => fB kn fun kn => bif kn then fV v (fun v => K (.sc true v)) else K (.sc false v)) (fun kn es d tip K => fB kn fun kn => fTip tip fun tip => bif kn then fDm m d (fun d => K (.sl true es d tip)) else K (.sl false es d tip))
  (fun o off K => fN o fun o => fN off fun off => K (.ptr o off)) (fun o K => fN o fun o => K (.mp o)) (fun kn es d j K => fN j fun j => K (.ep kn es d j)) (fun f _ _ iha ihc K => iha fun a => ihc fun c => K (.fn f a c)) (fun _ ih K => ih fun cs => K (.agg cs)) (fun _ ih K => ih fun vs => K (.tup vs))
  (fun kn o n len K => fN o fun o => K (.rsl kn o n len)) (fun kn o n i j K => fN o fun o => K (.rp kn o n i j)) (fun es d K => K (.rw es d)) (fun K => K []) (fun _ _ ih ihs K => ih fun x => ihs fun xs => K (x :: xs)) x
def fAL (m : Bool) (l : List AV) : (List AV → α) → α := @AV.rec_1 (fun _ => (AV → α) → α) (fun _ => (List AV → α) → α) (fun K => K .any) (fun kn v K => fB kn fun kn => bif kn then fV v (fun v => K (.sc true v)) else K (.sc false v)) (fun kn es d tip K => fB kn fun kn => fTip tip fun tip => bif kn then fDm m d (fun d => K (.sl true es d tip)) else K (.sl false es d tip))
  (fun o off K => fN o fun o => fN off fun off => K (.ptr o off)) (fun o K => fN o fun o => K (.mp o)) (fun kn es d j K => fN j fun j => K (.ep kn es d j)) (fun f _ _ iha ihc K => iha fun a => ihc fun c => K (.fn f a c)) (fun _ ih K => ih fun cs => K (.agg cs)) (fun _ ih K => ih fun vs => K (.tup vs))
  (fun kn o n len K => fN o fun o => K (.rsl kn o n len)) (fun kn o n i j K => fN o fun o => K (.rp kn o n i j)) (fun es d K => K (.rw es d)) (fun K => K []) (fun _ _ ih ihs K => ih fun x => ihs fun xs => K (x :: xs)) l
mutual
theorem fA_eq (m : Bool) : ∀ (x : AV) (K : AV → α), fA m x K = K x
  | .any, _ => rfl
  | .sc kn v, K => by
    cases kn
    · rfl
    · exact fV_eq v fun v => K (.sc true v)
  | .sl kn es d tip, K => by
    cases kn
    · exact fTip_eq tip fun tip => K (.sl false es d tip)
    · exact (fTip_eq tip fun tip => fDm m d fun d => K (.sl true es d tip)).trans (fDm_eq m d fun d => K (.sl true es d tip))
  | .ptr o off, K => by
    show fN o (fun o => fN off fun off => K (.ptr o off)) = _
    rw [fN_eq, fN_eq]
  | .mp o, K => fN_eq o fun o => K (.mp o)
  | .ep kn es d j, K => fN_eq j fun j => K (.ep kn es d j)
  | .fn f a c, K => by
    show fAL m a (fun a => fAL m c fun c => K (.fn f a c)) = _
    rw [fAL_eq m a, fAL_eq m c]
  | .agg cs, K => fAL_eq m cs fun cs => K (.agg cs)
  | .tup vs, K => fAL_eq m vs fun vs => K (.tup vs)
  | .rsl kn o n len, K => fN_eq o fun o => K (.rsl kn o n len)
  | .rp kn o n i j, K => fN_eq o fun o => K (.rp kn o n i j)
  | .rw _ _, _ => rfl
theorem fAL_eq (m : Bool) : ∀ (l : List AV) (K : List AV → α), fAL m l K = K l
  | [], _ => rfl
  | x :: xs, K => by
    show fA m x (fun x => fAL m xs fun xs => K (x :: xs)) = _
    rw [fA_eq m x, fAL_eq m xs]
end
/-- the heap's numbers, the last object -/
def fH (m : Bool) (h : Hp) (K : Hp → α) : α := @Hp.rec (fun _ => α) (fun ob nx gn nv ng ep => fN nx fun nx => fN nv fun nv => fN ng fun ng => fN ep fun ep => match ob, gn with
  | (o, cs) :: r, (k, g, e) :: r' => fN o fun o => fAL m cs fun cs => fN k fun k => fN g fun g => K ⟨(o, cs) :: r, nx, (k, g, e) :: r', nv, ng, ep⟩
  | (o, cs) :: r, [] => fN o fun o => fAL m cs fun cs => K ⟨(o, cs) :: r, nx, [], nv, ng, ep⟩
  | [], (k, g, e) :: r' => fN k fun k => fN g fun g => K ⟨[], nx, (k, g, e) :: r', nv, ng, ep⟩
  | [], [] => K ⟨[], nx, [], nv, ng, ep⟩) h
theorem fH_eq (m : Bool) (h : Hp) (K : Hp → α) : fH m h K = K h := by
  obtain ⟨ob, nx, gn, nv, ng, ep⟩ := h
  unfold fH
  simp only [fN_eq]
  split <;> simp only [fN_eq, fAL_eq]
def fT (F : Tm) (K : Tm → α) : α := @Tm.rec (fun _ => α) (fun nt tm df => K ⟨nt, tm, df⟩) F
theorem fT_eq (F : Tm) (K : Tm → α) : fT F K = K F := rfl
end force
/-- what changes the heap -/
def heapO (o : Oper) : Bool := match o.op with
  | .alloc _ | .box .. | .buildSlice .. | .store .. | .makeMap .. | .mapUpdate .. => true
  | .call { callee := .value _, .. } => true
  | .call { callee := .builtin .append, .. } => true
  | _ => false
/-! A drawn region's orders, laid out ahead. -/
inductive Pl where
  | done | bad (n : Nat)
  | early (i : Nat) (o : Oper) (x : Pl)
  | one (o : Oper) (x : Pl)
  | two (o p : Oper) (x y : Pl)
  | three (o p q : Oper) (x y z : Pl)
/-- an operation, in numbers: what it waits for, what it looks at, where it puts -/
structure Row where
  am : Nat
  lk : Nat
  ds : Nat
  er : Bool
  op : Oper
def bit (m i : Nat) : Bool := Nat.beq (Nat.land (Nat.shiftRight m i) 1) 1
def orB (m i : Nat) : Nat := Nat.lor m (Nat.shiftLeft 1 i)
def amOf (o : Oper) : Nat := o.after.toList.foldl (fun m e => bif Region.binds .any e then orB m e.on else m) 0
def lkOf (ops : Array Oper) (o : Oper) : Nat := (o.looksAt ops).foldl orB 0
def rowOfO (er : Oper → Bool) (ops : Array Oper) (o : Oper) : Row := ⟨amOf o, lkOf ops o, match o.dst with | some d => d + 1 | none => 0, er o, o⟩
theorem bit_iff {m i : Nat} : bit m i = m.testBit i := by
  unfold bit Nat.testBit
  rw [show Nat.land (Nat.shiftRight m i) 1 = (m >>> i) &&& 1 from rfl, Nat.and_comm 1]
  have : (m >>> i) &&& 1 = (m >>> i) % 2 := Nat.and_one_is_mod _
  rw [this]
  rcases Nat.mod_two_eq_zero_or_one (m >>> i) with h | h <;> rw [h] <;> rfl
theorem bit_or {m i j : Nat} : bit (orB m i) j = (bit m j || decide (i = j)) := by
  rw [bit_iff, bit_iff]
  unfold orB
  rw [show Nat.lor m (Nat.shiftLeft 1 i) = m ||| (1 <<< i) from rfl, Nat.testBit_or, Nat.testBit_shiftLeft]
  congr 1
  by_cases h : i = j
  · subst h; simp
  · rw [decide_eq_false h]
    by_cases h2 : j ≥ i
    · obtain ⟨k, hk⟩ : ∃ k, j - i = k + 1 := ⟨j - i - 1, by omega⟩
      rw [hk]
      simp [Nat.testBit_succ]
    · simp [h2]
theorem amOf_bit (o : Oper) (j : Nat) : bit (amOf o) j = o.after.toList.any fun e => Region.binds .any e && e.on == j := by
  have key : ∀ (l : List Edge) (m : Nat), bit (l.foldl (fun m e => bif Region.binds .any e then orB m e.on else m) m) j = (bit m j || l.any fun e => Region.binds .any e && e.on == j) := by
    intro l
    induction l with
    | nil => intro m; simp
    | cons e l ih =>
      intro m
      rw [List.foldl_cons, ih, List.any_cons]
      cases hb : Region.binds .any e
      · simp
      · rw [cond_true, bit_or]
        by_cases h : e.on = j
        · subst h; simp
        · rw [decide_eq_false h, show (e.on == j) = false from beq_false_of_ne h]; simp
  unfold amOf
  rw [key]
  have : bit 0 j = false := by rw [bit_iff]; simp
  rw [this, Bool.false_or]
theorem lkOf_bit (ops : Array Oper) (o : Oper) (t : Nat) : bit (lkOf ops o) t = (o.looksAt ops).contains t := by
  have key : ∀ (l : List Nat) (m : Nat), bit (l.foldl orB m) t = (bit m t || l.contains t) := by
    intro l
    induction l with
    | nil => intro m; simp
    | cons e l ih =>
      intro m
      rw [List.foldl_cons, ih, bit_or, List.contains_cons]
      by_cases h : e = t
      · subst h; simp
      · rw [decide_eq_false h, show (t == e) = false from beq_false_of_ne fun x => h x.symm]; simp
  unfold lkOf
  rw [key]
  have : bit 0 t = false := by rw [bit_iff]; simp
  rw [this, Bool.false_or]
theorem sub_iff {m L : Nat} : Nat.beq (Nat.land m L) m = true ↔ ∀ j, bit m j = true → bit L j = true := by
  rw [show Nat.land m L = m &&& L from rfl]
  constructor
  · intro h j hj
    have h := Nat.eq_of_beq_eq_true h
    rw [bit_iff] at hj ⊢
    rw [← h, Nat.testBit_and, Bool.and_eq_true] at hj
    exact hj.2
  · intro h
    refine (Nat.beq_eq ▸ ?_ : Nat.beq (m &&& L) m = true)
    refine Nat.eq_of_testBit_eq fun j => ?_
    rw [Nat.testBit_and]
    cases hj : m.testBit j
    · rfl
    · have := h j (by rw [bit_iff]; exact hj)
      rw [bit_iff] at this
      rw [this]; rfl
def rdyM : List Row → Nat → Nat → List (Nat × Row)
  | [], _, _ => []
  | r :: rs, i, L => bif bit L i then rdyM rs (i + 1) L else bif Nat.beq (Nat.land r.am L) r.am then (i, r) :: rdyM rs (i + 1) L else rdyM rs (i + 1) L
def apartM (x y : Row) : Bool := bif (bif Nat.beq x.ds 0 then true else bif bit y.lk (x.ds - 1) then false else !(Nat.beq y.ds x.ds)) then (bif Nat.beq y.ds 0 then true else !(bit x.lk (y.ds - 1))) else false
def freeM (r : Row) (i L : Nat) : List Row → Nat → Bool
  | [], _ => true
  | q :: rs, j => bif (bif Nat.beq j i then true else bif bit L j then true else bif bit q.am i then true else apartM r q) then freeM r i L rs (j + 1) else false
def findE' : List (Nat × Row) → Option (Nat × Row)
  | [] => none
  | x :: xs => bif x.2.er then some x else findE' xs
def planM : Nat → List Row → Nat → Pl
  | 0, rs, L => match rdyM rs 0 L with | [] => .done | _ => .bad 95
  | n + 1, rs, L => match findE' (rdyM rs 0 L) with
    | some (i, r) => bif freeM r i L rs 0 then .early i r.op (planM n rs (orB L i)) else .bad 96
    | none => match rdyM rs 0 L with
      | [] => .done
      | [(i, r)] => .one r.op (planM n rs (orB L i))
      | [(i, r), (j, q)] => .two r.op q.op (planM n rs (orB L i)) (planM n rs (orB L j))
      | [(i, r), (j, q), (k, t)] => .three r.op q.op t.op (planM n rs (orB L i)) (planM n rs (orB L j)) (planM n rs (orB L k))
      | _ => .bad 100
def rowsM (er : Oper → Bool) (ops : Array Oper) : List Row := ops.toList.map (rowOfO er ops)
theorem rdyM_eq {er : Oper → Bool} {ops : Array Oper} {listed : Array Bool} {L : Nat} (hs : listed.size = ops.size) (hL : ∀ j, bit L j = listed.getD j false) : ∀ (l : List Oper) (i : Nat), (∀ k, l[k]? = ops[i + k]?) →
    (rdyM (l.map (rowOfO er ops)) i L).map Prod.fst = (List.range' i l.length).filter (fun i => !listed.getD i true && ((ops[i]?).map (·.after.all fun e => !Region.binds .any e || listed.getD e.on false)).getD false) ∧ ∀ p ∈ rdyM (l.map (rowOfO er ops)) i L, ∃ o, ops[p.1]? = some o ∧ p.2 = rowOfO er ops o
  | [], i, _ => ⟨rfl, fun p hp => by simp [rdyM] at hp⟩
  | o :: l, i, h => by
    have h0 : ops[i]? = some o := by have := h 0; simpa using this.symm
    have hi : i < ops.size := (Array.getElem?_eq_some_iff.1 h0).1
    obtain ⟨ih1, ih2⟩ := rdyM_eq hs hL l (i + 1) (fun k => by have := h (k + 1); rw [List.getElem?_cons_succ] at this; rw [this]; congr 1; omega)
    have hgt : listed.getD i true = bit L i := by
      rw [hL, Array.getD_eq_getD_getElem?, Array.getD_eq_getD_getElem?, Array.getElem?_eq_getElem (by rw [hs]; exact hi)]; rfl
    have hsub : Nat.beq (Nat.land (amOf o) L) (amOf o) = o.after.all fun e => !Region.binds .any e || listed.getD e.on false := by
      rw [Bool.eq_iff_iff, sub_iff, Array.all_eq_true']
      constructor
      · intro hh e he
        cases hb : Region.binds .any e
        · rfl
        · have := hh e.on (by rw [amOf_bit]; exact List.any_eq_true.2 ⟨e, Array.mem_toList_iff.2 he, by simp [hb]⟩)
          rw [hL] at this
          simp [this]
      · intro hh j hj
        rw [amOf_bit] at hj
        obtain ⟨e, he, hx⟩ := List.any_eq_true.1 hj
        simp only [Bool.and_eq_true, beq_iff_eq] at hx
        have := hh e (Array.mem_toList_iff.1 he)
        rw [hx.1] at this
        rw [hL, ← hx.2]; simpa using this
    rw [List.map_cons, List.length_cons, List.range'_succ, List.filter_cons]
    simp only [rdyM, h0, Option.map_some, Option.getD_some, hgt]
    rw [show (rowOfO er ops o).am = amOf o from rfl, hsub]
    cases hb : bit L i
    · simp only [Bool.not_false, Bool.true_and, cond_false]
      cases hc : o.after.all fun e => !Region.binds .any e || listed.getD e.on false
      · simp only [cond_false, Bool.false_eq_true, if_false]; exact ⟨ih1, ih2⟩
      · simp only [cond_true, if_true, List.map_cons]
        refine ⟨by rw [ih1], fun p hp => ?_⟩
        rcases List.mem_cons.1 hp with rfl | hp
        · exact ⟨o, h0, rfl⟩
        · exact ih2 p hp
    · simp only [Bool.not_true, Bool.false_and, cond_true, Bool.false_eq_true, if_false]; exact ⟨ih1, ih2⟩
theorem nbeq (a b : Nat) : Nat.beq a b = (a == b) := by
  rw [Bool.eq_iff_iff]
  constructor
  · intro h; simpa using Nat.eq_of_beq_eq_true h
  · intro h
    have h2 : a = b := by simpa using h
    rw [h2]; exact Nat.beq_refl b
theorem apartM_eq (er : Oper → Bool) (ops : Array Oper) (x y : Oper) : apartM (rowOfO er ops x) (rowOfO er ops y) = x.apart ops y := by
  unfold apartM Oper.apart rowOfO
  simp only [lkOf_bit]
  cases hx : x.dst with
  | none => cases hy : y.dst with
    | none => rfl
    | some e =>
      simp only [Nat.add_sub_cancel]
      rw [show Nat.beq 0 0 = true from rfl, show Nat.beq (e + 1) 0 = false from rfl]
      simp
  | some d => cases hy : y.dst with
    | none =>
      simp only [Nat.add_sub_cancel]
      rw [show Nat.beq (d + 1) 0 = false from rfl, show Nat.beq 0 (d + 1) = false from rfl, show Nat.beq 0 0 = true from rfl]
      cases (y.looksAt ops).contains d <;> rfl
    | some e =>
      simp only [Nat.add_sub_cancel]
      rw [show Nat.beq (d + 1) 0 = false from rfl, show Nat.beq (e + 1) 0 = false from rfl]
      have : Nat.beq (e + 1) (d + 1) = decide (e = d) := by
        rw [nbeq, Bool.eq_iff_iff]
        simp
      rw [this]
      by_cases h : e = d
      · subst h
        cases (y.looksAt ops).contains e <;> cases (x.looksAt ops).contains e <;> simp
      · rw [decide_eq_false h]
        have h2 : (some e != some d) = true := by simp [h]
        rw [h2]
        cases (y.looksAt ops).contains d <;> cases (x.looksAt ops).contains e <;> rfl
theorem freeM_ok {er : Oper → Bool} {ops : Array Oper} {listed : Array Bool} {L i : Nat} {oi : Oper} (hs : listed.size = ops.size) (hL : ∀ j, bit L j = listed.getD j false) : ∀ (l : List Oper) (s : Nat), (∀ k, l[k]? = ops[s + k]?) →
    freeM (rowOfO er ops oi) i L (l.map (rowOfO er ops)) s = (List.range' s l.length).all fun j => j == i || listed.getD j true || match ops[j]? with
      | some oj => oj.after.any (fun e => Region.binds .any e && e.on == i) || oi.apart ops oj
      | none => true
  | [], s, _ => rfl
  | o :: l, s, h => by
    have h0 : ops[s]? = some o := by have := h 0; simpa using this.symm
    have hi : s < ops.size := (Array.getElem?_eq_some_iff.1 h0).1
    have ih := freeM_ok (er := er) (i := i) (oi := oi) hs hL l (s + 1) (fun k => by have := h (k + 1); rw [List.getElem?_cons_succ] at this; rw [this]; congr 1; omega)
    have hgt : listed.getD s true = bit L s := by
      rw [hL, Array.getD_eq_getD_getElem?, Array.getD_eq_getD_getElem?, Array.getElem?_eq_getElem (by rw [hs]; exact hi)]; rfl
    rw [List.map_cons, List.length_cons, List.range'_succ, List.all_cons, ← ih]
    simp only [freeM, h0, hgt]
    rw [apartM_eq, show (rowOfO er ops o).am = amOf o from rfl, amOf_bit]
    have hany : (o.after.toList.any fun e => Region.binds .any e && e.on == i) = o.after.any (fun e => Region.binds .any e && e.on == i) := by simp
    rw [hany]
    have hb : Nat.beq s i = (s == i) := nbeq s i
    rw [hb]
    cases (s == i) <;> cases bit L s <;> cases (o.after.any fun e => Region.binds .any e && e.on == i) <;> cases (oi.apart ops o) <;> rfl
section run
variable (P : Program) (m : Bool) (er : Oper → Bool) (call : FuncId → Spec) (ops : Array Oper)
/-- a step, its answer laid out -/
def fvStep (o : Oper) (F : Tm) (h : Hp) : RT (Tm × Hp) :=
  guardA ops o F (fun F => match deferA o F with
    | some r => r.bind fun F => .ok (F, h)
    | none => (evOp P call o F h).bind fun r => fA m r.1 fun v => bif heapO o then fH m r.2 fun h' => (putA F o.dst v).bind fun F => .ok (F, h') else (putA F o.dst v).bind fun F => .ok (F, r.2)) (fun F => (putA F o.dst (.tup [])).bind fun F => .ok (F, h))
theorem fvStep_eq (o : Oper) (F : Tm) (h : Hp) : fvStep P m call ops o F h = evStep P call ops o F h := by
  unfold fvStep evStep
  congr 1
  funext F
  cases deferA o F with
  | some r => rfl
  | none =>
    simp only
    congr 1
    funext r
    rw [fA_eq]
    cases heapO o
    · rfl
    · rw [cond_true, fH_eq]
def goTH {α : Type} (x : Tm × Hp) (K : Tm → Hp → α) : α := @Prod.rec Tm Hp (fun _ => α) (fun F h => fT F fun F => @Hp.rec (fun _ => α) (fun ob nx gn nv ng ep => K F ⟨ob, nx, gn, nv, ng, ep⟩) h) x
theorem goTH_eq {α : Type} (x : Tm × Hp) (K : Tm → Hp → α) : goTH x K = K x.1 x.2 := rfl
def fvList (l : List Oper) : Tm → Hp → RT (Tm × Hp) :=
  @List.rec Oper (fun _ => Tm → Hp → RT (Tm × Hp)) (fun F h => .ok (F, h)) (fun o _ r F h => (fvStep P m call ops o F h).bind fun x => goTH x r) l
theorem fvList_eq : ∀ (l : List Oper) (F : Tm) (h : Hp), fvList P m call ops l F h = evList P call ops l F h
  | [], _, _ => rfl
  | o :: l, F, h => by
    rw [evList_cons]
    show (fvStep P m call ops o F h).bind _ = _
    rw [fvStep_eq]
    congr 1
    funext x
    rw [goTH_eq]
    exact fvList_eq l _ _
def runPl (pl : Pl) : Prm → Tm → Hp → RT (Tm × Hp) :=
  @Pl.rec (fun _ => Prm → Tm → Hp → RT (Tm × Hp)) (fun _ F h => .ok (F, h)) (fun n _ _ _ => .bad n)
    (fun i o _ r pr F h => (fvStep P m call ops o F h).bind fun x => goTH x fun F' h' => r (promise i o F h ++ pr) F' h')
    (fun o _ r pr F h => (fvStep P m call ops o F h).bind fun x => bif keeps x.2 (keepP o pr) then goTH x (r (keepP o pr)) else .bad 98)
    (fun o p _ _ r s pr F h => .all ((fvStep P m call ops o F h).bind fun x => bif keeps x.2 (keepP o pr) then goTH x (r (keepP o pr)) else .bad 98) ((fvStep P m call ops p F h).bind fun x => bif keeps x.2 (keepP p pr) then goTH x (s (keepP p pr)) else .bad 98))
    (fun o p q _ _ _ r s t pr F h => .all ((fvStep P m call ops o F h).bind fun x => bif keeps x.2 (keepP o pr) then goTH x (r (keepP o pr)) else .bad 98) (.all ((fvStep P m call ops p F h).bind fun x => bif keeps x.2 (keepP p pr) then goTH x (s (keepP p pr)) else .bad 98) ((fvStep P m call ops q F h).bind fun x => bif keeps x.2 (keepP q pr) then goTH x (t (keepP q pr)) else .bad 98))) pl
theorem findE_eq {er : Oper → Bool} {ops : Array Oper} {f : Nat → Bool} (hf : ∀ i o, ops[i]? = some o → f i = er o) : ∀ {l : List (Nat × Row)}, (∀ p ∈ l, ∃ o, ops[p.1]? = some o ∧ p.2 = rowOfO er ops o) → (l.map Prod.fst).find? f = (findE' l).map Prod.fst ∧ ∀ p, findE' l = some p → p ∈ l
  | [], _ => ⟨rfl, fun p hp => by cases hp⟩
  | x :: l, h => by
    obtain ⟨o, h1, h2⟩ := h x (List.mem_cons_self ..)
    obtain ⟨ih1, ih2⟩ := findE_eq hf (l := l) fun p hp => h p (List.mem_cons_of_mem _ hp)
    rw [List.map_cons, List.find?_cons]
    simp only [findE', hf _ _ h1]
    rw [h2, show (rowOfO er ops o).er = er o from rfl]
    cases he : er o
    · exact ⟨ih1, fun p hp => List.mem_cons_of_mem _ (ih2 p hp)⟩
    · exact ⟨rfl, fun p hp => by have : x = p := Option.some.inj hp; rw [← this]; exact List.mem_cons_self ..⟩
theorem runPl_eq : ∀ (n : Nat) (listed : Array Bool) (L : Nat), listed.size = ops.size → (∀ j, bit L j = listed.getD j false) → ∀ (pr : Prm) (F : Tm) (h : Hp),
    runPl P m call ops (planM n (rowsM er ops) L) pr F h = evDrawn P er call ops n listed pr F h
  | 0, listed, L, hs, hL, pr, F, h => by
    obtain ⟨h1, _⟩ := rdyM_eq hs hL ops.toList 0 (fun k => by simp)
    have hr : (rdyM (rowsM er ops) 0 L).map Prod.fst = Region.ready .any ops listed := by
      unfold rowsM Region.ready
      rw [h1, List.range_eq_range']; simp
    unfold evDrawn planM
    rw [← hr]
    cases rdyM (rowsM er ops) 0 L with
    | nil => rfl
    | cons x l => rfl
  | n + 1, listed, L, hs, hL, pr, F, h => by
    obtain ⟨h1, h2⟩ := rdyM_eq hs hL ops.toList 0 (fun k => by simp)
    have hr : (rdyM (rowsM er ops) 0 L).map Prod.fst = Region.ready .any ops listed := by
      unfold rowsM Region.ready
      rw [h1, List.range_eq_range']; simp
    have h2' : ∀ p ∈ rdyM (rowsM er ops) 0 L, ∃ o, ops[p.1]? = some o ∧ p.2 = rowOfO er ops o := h2
    have g2 := (findE_eq (f := fun i => match ops[i]? with | some o => er o | none => false) (fun i o ho => by simp only [ho]) h2').2
    have next : ∀ i, ops[i]? ≠ none → ∀ (pr : Prm) (F : Tm) (h : Hp), runPl P m call ops (planM n (rowsM er ops) (orB L i)) pr F h = evDrawn P er call ops n (listed.setIfInBounds i true) pr F h := fun i hi pr F h => by
      have hlt : i < ops.size := by
        rcases Nat.lt_or_ge i ops.size with h | h
        · exact h
        · exact absurd (Array.getElem?_eq_none h) hi
      refine runPl_eq n _ _ (by simpa using hs) (fun j => ?_) pr F h
      rw [bit_or, hL]
      by_cases e : i = j
      · subst e; simp [hs, hlt]
      · simp [Array.getElem?_setIfInBounds_ne e, e]
    have one : ∀ i r, (i, r) ∈ rdyM (rowsM er ops) 0 L → ((fvStep P m call ops r.op F h).bind fun x => bif keeps x.2 (keepP r.op pr) then goTH x (runPl P m call ops (planM n (rowsM er ops) (orB L i)) (keepP r.op pr)) else .bad 98) = match ops[i]? with
        | some o => (evStep P call ops o F h).bind fun r => bif keeps r.2 (keepP o pr) then evDrawn P er call ops n (listed.setIfInBounds i true) (keepP o pr) r.1 r.2 else .bad 98
        | none => .bad 99 := fun i r hm => by
      obtain ⟨o, k1, k2⟩ := h2' _ hm
      simp only at k1 k2
      subst k2
      rw [k1]
      show (fvStep P m call ops o F h).bind _ = _
      rw [fvStep_eq]
      simp only
      congr 1
      funext x
      rw [show (rowOfO er ops o).op = o from rfl, goTH_eq, next i (by rw [k1]; simp)]
    unfold evDrawn planM
    simp only
    rw [← hr, (findE_eq (fun i o ho => by simp only [ho]) h2').1]
    cases hf : findE' (rdyM (rowsM er ops) 0 L) with
    | some p =>
      obtain ⟨i, r⟩ := p
      obtain ⟨o, k1, k2⟩ := h2' _ (g2 _ hf)
      simp only at k1 k2
      subst k2
      simp only [Option.map_some, k1]
      have hfree : freeM (rowOfO er ops o) i L (rowsM er ops) 0 = Region.free .any ops listed i := by
        have := freeM_ok (er := er) (i := i) (oi := o) hs hL ops.toList 0 (fun k => by simp)
        unfold rowsM Region.free
        rw [this, k1, List.range_eq_range', Array.length_toList]
        rfl
      rw [hfree]
      cases Region.free .any ops listed i
      · rfl
      · simp only [cond_true]
        show (fvStep P m call ops o F h).bind _ = _
        rw [fvStep_eq]
        congr 1
        funext x
        rw [goTH_eq]
        exact next i (by rw [k1]; simp) _ _ _
    | none =>
      simp only [Option.map_none]
      generalize hrl : rdyM (rowsM er ops) 0 L = rl
      rw [hrl] at one
      match rl, one with
      | [], _ => rfl
      | [(i, r)], one => exact one i r (by simp)
      | [(i, r), (j, q)], one => exact congr (congrArg RT.all (one i r (by simp))) (one j q (by simp))
      | [(i, r), (j, q), (k, t)], one => exact congr (congrArg RT.all (one i r (by simp))) (congr (congrArg RT.all (one j q (by simp))) (one k t (by simp)))
      | _ :: _ :: _ :: _ :: _, _ => rfl
variable (Γ : FuncId → Option Spec) (Λ : FuncId → Nat → Option BSpec)
/-- code, its values laid out -/
def fvC (m : Bool) : Nat → FuncId → Code → Tm → Hp → RT Out
  | 0, _, _, _, _ => .bad 101
  | n + 1, f, c, F, h =>
    match c with
    | .skip => .ok (.normal, F, h)
    | .region _ ops false => (fvList P m (callE P Γ (fvC m n)) ops ops.toList F h).bind fun r => .ok (.normal, r.1, r.2)
    | .region id ops true => bif asRow Λ f id ops then (evReg P (callE P Γ (fvC m n)) ops F h).bind fun r => .ok (.normal, r.1, r.2) else bif Region.noSelect ops then (runPl P m (callE P Γ (fvC m n)) ops (planM ops.size (rowsM (erOf Λ f id) ops) 0) [] F h).bind fun r => .ok (.normal, r.1, r.2) else .bad 108
    | .seq a b => (fvC m n f a F h).bind fun r => match r.1 with | .normal => goTH r.2 (fvC m n f b) | e => .ok (e, r.2.1, r.2.2)
    | .cond c a b => match c with
      | .tmp t => match look t F.tm with
        | .sc kn (.bool v) => brk kn v (fvC m n f a (setA F t true) h) (fvC m n f b (setA F t false) h)
        | _ => .bad 104
      | _ => .bad 105
    | .block id b => match Λ f id with
      | some sp => sp F h
      | none => (fvC m n f b F h).bind fun r => match r.1 with
        | .exit j => bif Nat.beq j id then .ok (.normal, r.2.1, r.2.2) else .ok (.exit j, r.2.1, r.2.2)
        | e => .ok (e, r.2.1, r.2.2)
    | .loop b => (fvC m n f b F h).bind fun r => match r.1 with
      | .normal => goTH r.2 (fvC m n f (.loop b))
      | e => .ok (e, r.2.1, r.2.2)
    | .exit id => .ok (.exit id, F, h)
    | .ret => .ok (.ret, F, h)
    | _ => .bad 106
theorem fvC_eq (m : Bool) : ∀ (n : Nat), fvC P Γ Λ m n = evC P Γ Λ n
  | 0 => by funext f c F h; rfl
  | n + 1 => by
    have ih := fvC_eq m n
    funext f c F h
    cases c with
    | region id ops draw => cases draw with
      | false =>
        show (fvList P m (callE P Γ (fvC P Γ Λ m n)) ops ops.toList F h).bind _ = (evList P (callE P Γ (evC P Γ Λ n)) ops ops.toList F h).bind _
        rw [ih, fvList_eq]
      | true =>
        have hrun := runPl_eq P m (erOf Λ f id) (callE P Γ (evC P Γ Λ n)) ops ops.size (Array.replicate ops.size false) 0 (by simp) (fun j => by
          have : bit 0 j = false := by rw [bit_iff]; simp
          rw [this, Array.getD_eq_getD_getElem?, Array.getElem?_replicate]
          split <;> rfl)
        show (bif asRow Λ f id ops then (evReg P (callE P Γ (fvC P Γ Λ m n)) ops F h).bind _ else bif Region.noSelect ops then (runPl P m (callE P Γ (fvC P Γ Λ m n)) ops (planM ops.size (rowsM (erOf Λ f id) ops) 0) [] F h).bind _ else _) = (bif asRow Λ f id ops then (evReg P (callE P Γ (evC P Γ Λ n)) ops F h).bind _ else bif Region.noSelect ops then (evDrawn P (erOf Λ f id) (callE P Γ (evC P Γ Λ n)) ops ops.size (Array.replicate ops.size false) [] F h).bind _ else _)
        rw [ih, hrun]
    | seq a b =>
      show (fvC P Γ Λ m n f a F h).bind _ = (evC P Γ Λ n f a F h).bind _
      rw [ih]; rfl
    | cond c a b =>
      show (match c with | .tmp t => _ | _ => _) = (match c with | .tmp t => _ | _ => _)
      rw [ih]; rfl
    | block id b =>
      show (match Λ f id with | some sp => sp F h | none => (fvC P Γ Λ m n f b F h).bind _) = (match Λ f id with | some sp => sp F h | none => (evC P Γ Λ n f b F h).bind _)
      rw [ih]; rfl
    | loop b =>
      show (fvC P Γ Λ m n f b F h).bind _ = (evC P Γ Λ n f b F h).bind _
      rw [ih]; rfl
    | _ => rfl
/-- a call, by the function's own code -/
def fvF (m : Bool) (n : Nat) (f : FuncId) : Spec := fun args h => match plainF P f with
  | none => .bad 102
  | some (fn, b) => fAL m args fun args => bodyE P (fvC P Γ Λ m n) f fn b args h
theorem fvF_eq (m : Bool) (n : Nat) (f : FuncId) : fvF P Γ Λ m n f = evF P Γ Λ n f := by
  funext args h
  unfold fvF evF
  rw [fvC_eq]
  cases plainF P f with
  | none => rfl
  | some p => exact fAL_eq m args _
end run
end
end Go.Proofs.YtcambhbmobepjaaGreat

namespace Go.Proofs.YtcambhbmobepjaaGreat
set_option linter.unusedSimpArgs false
set_option linter.unusedVariables false
open Go.RowKit
set_option maxRecDepth 100000
noncomputable section
-- FAST

-- DEFS
def opG (P : Program) : List (FuncId × Spec) := (61, pureS P 61 FOwn) :: (104, pureS P 104 FDec) :: (11, pureS P 11 FLck) :: (82, pureS P 82 FSet) :: (83, pureS P 83 FSound) :: (79, pureS P 79 FCopied) :: (78, pureS P 78 FEnc) :: (60, pureS P 60 FEnc7) :: (98, pureS P 98 FCloneB) :: (118, pureS P 118 FChk) :: putG P
def tg (x : AV) (i : Nat) : AV := match x with | .tup vs => vs.getD i .any | _ => .any
def elt (x : AV) (i : Nat) : AV := match x with | .sl kn es d _ => .agg (leaves kn es (d.get i) 0) | _ => .any
-- END
theorem opG_ok : GamL Tryz.prog (opG Tryz.prog) := ⟨own_soundF, dec_soundF, lcheck_soundF, set_soundF, sou_soundF, copied_soundF, encode_soundF, enc7_soundF, cloneb_soundF, chk_soundF, putG_ok⟩
def oN7K : List AV := [cfK, kk 7]
def oN7R : AV :=
    (AV.tup
        [AV.agg
            [AV.sc true (Value.int IntKind.i64 0), AV.sc true (Value.int IntKind.i64 0),
              AV.sc true (Value.int IntKind.i64 0),
              AV.sl true [Sh.int IntKind.i64, Sh.sl [Sh.int IntKind.u8]]
                (D.kl [D.t [D.ki 1, D.kl [D.ki 5, D.ki 212]], D.t [D.ki 5, D.kl [D.ki 0, D.ki 0, D.ki 0, D.ki 7]]]) none,
              AV.sc true (Value.int IntKind.i64 0), AV.sc true (Value.int IntKind.i64 0),
              AV.sc true (Value.int IntKind.i64 0), AV.sc true (Value.int IntKind.i64 7),
              AV.sc true (Value.int IntKind.i64 0), AV.sc true (Value.int IntKind.i64 1492),
              AV.sc true (Value.int IntKind.i64 0), AV.sc true (Value.int IntKind.i64 0)],
          AV.sc true (Value.int IntKind.i64 0)])
theorem oN7 : okV (treeR (evF Tryz.prog (gam (opG Tryz.prog)) (lam ([])) 100 9) oN7K) = some oN7R := by rw [← fvF_eq Tryz.prog (gam (opG Tryz.prog)) (lam ([])) true 100 9]; kernel_rfl
def oN9K : List AV := [cfK, kk 9]
def oN9R : AV :=
    (AV.tup
        [AV.agg
            [AV.sc true (Value.int IntKind.i64 0), AV.sc true (Value.int IntKind.i64 0),
              AV.sc true (Value.int IntKind.i64 0),
              AV.sl true [Sh.int IntKind.i64, Sh.sl [Sh.int IntKind.u8]]
                (D.kl [D.t [D.ki 1, D.kl [D.ki 5, D.ki 212]], D.t [D.ki 5, D.kl [D.ki 0, D.ki 0, D.ki 0, D.ki 9]]]) none,
              AV.sc true (Value.int IntKind.i64 0), AV.sc true (Value.int IntKind.i64 0),
              AV.sc true (Value.int IntKind.i64 0), AV.sc true (Value.int IntKind.i64 9),
              AV.sc true (Value.int IntKind.i64 0), AV.sc true (Value.int IntKind.i64 1492),
              AV.sc true (Value.int IntKind.i64 0), AV.sc true (Value.int IntKind.i64 0)],
          AV.sc true (Value.int IntKind.i64 0)])
theorem oN9 : okV (treeR (evF Tryz.prog (gam (opG Tryz.prog)) (lam ([])) 100 9) oN9K) = some oN9R := by rw [← fvF_eq Tryz.prog (gam (opG Tryz.prog)) (lam ([])) true 100 9]; kernel_rfl
end
end Go.Proofs.YtcambhbmobepjaaGreat

namespace Go.Proofs.YtcambhbmobepjaaGreat
set_option linter.unusedSimpArgs false
set_option linter.unusedVariables false
open Go.RowKit
set_option maxRecDepth 100000
noncomputable section
-- FAST
def oA1K : List AV := [cfK, tg oN7R 0, kk 3, kk 0]
def oA1R : AV :=
    (AV.tup
        [AV.agg
            [AV.sc true (Value.int IntKind.i64 1), AV.sc true (Value.int IntKind.i64 0),
              AV.sc true (Value.int IntKind.i64 0),
              AV.sl true [Sh.int IntKind.i64, Sh.sl [Sh.int IntKind.u8]]
                (D.kl [D.t [D.ki 1, D.kl [D.ki 5, D.ki 212]], D.t [D.ki 5, D.kl [D.ki 0, D.ki 0, D.ki 0, D.ki 7]]]) none,
              AV.sc true (Value.int IntKind.i64 0), AV.sc true (Value.int IntKind.i64 0),
              AV.sc true (Value.int IntKind.i64 0), AV.sc true (Value.int IntKind.i64 7),
              AV.sc true (Value.int IntKind.i64 0), AV.sc true (Value.int IntKind.i64 1492),
              AV.sc true (Value.int IntKind.i64 0), AV.sc true (Value.int IntKind.i64 0)],
          AV.sl true [Sh.int IntKind.i64, Sh.int IntKind.i64, Sh.sl [Sh.int IntKind.u8]] (D.l []) none,
          AV.sl true [Sh.int IntKind.i64] (D.l [D.t [D.ki 3]]) none])
theorem oA1 : okV (treeR (evF Tryz.prog (gam (opG Tryz.prog)) (lam ([])) 100 50) oA1K) = some oA1R := by rw [← fvF_eq Tryz.prog (gam (opG Tryz.prog)) (lam ([])) true 100 50]; kernel_rfl
def oB1K : List AV := [cfK, tg oN9R 0, kk 3, kk 0]
def oB1R : AV :=
    (AV.tup
        [AV.agg
            [AV.sc true (Value.int IntKind.i64 1), AV.sc true (Value.int IntKind.i64 0),
              AV.sc true (Value.int IntKind.i64 0),
              AV.sl true [Sh.int IntKind.i64, Sh.sl [Sh.int IntKind.u8]]
                (D.kl [D.t [D.ki 1, D.kl [D.ki 5, D.ki 212]], D.t [D.ki 5, D.kl [D.ki 0, D.ki 0, D.ki 0, D.ki 9]]]) none,
              AV.sc true (Value.int IntKind.i64 0), AV.sc true (Value.int IntKind.i64 0),
              AV.sc true (Value.int IntKind.i64 0), AV.sc true (Value.int IntKind.i64 9),
              AV.sc true (Value.int IntKind.i64 0), AV.sc true (Value.int IntKind.i64 1492),
              AV.sc true (Value.int IntKind.i64 0), AV.sc true (Value.int IntKind.i64 0)],
          AV.sl true [Sh.int IntKind.i64, Sh.int IntKind.i64, Sh.sl [Sh.int IntKind.u8]] (D.l []) none,
          AV.sl true [Sh.int IntKind.i64] (D.l [D.t [D.ki 3]]) none])
theorem oB1 : okV (treeR (evF Tryz.prog (gam (opG Tryz.prog)) (lam ([])) 100 50) oB1K) = some oB1R := by rw [← fvF_eq Tryz.prog (gam (opG Tryz.prog)) (lam ([])) true 100 50]; kernel_rfl
end
end Go.Proofs.YtcambhbmobepjaaGreat

namespace Go.Proofs.YtcambhbmobepjaaGreat
set_option linter.unusedSimpArgs false
set_option linter.unusedVariables false
open Go.RowKit
set_option maxRecDepth 100000
noncomputable section
-- FAST
def oA2K : List AV := [cfK, tg oA1R 0, kk 1, kk 0]
def oA2R : AV :=
    (AV.tup
        [AV.agg
            [AV.sc true (Value.int IntKind.i64 6), AV.sc true (Value.int IntKind.i64 1),
              AV.sc true (Value.int IntKind.i64 1),
              AV.sl true [Sh.int IntKind.i64, Sh.sl [Sh.int IntKind.u8]]
                (D.kl [D.t [D.ki 1, D.kl [D.ki 5, D.ki 212]], D.t [D.ki 5, D.kl [D.ki 0, D.ki 0, D.ki 0, D.ki 7]]]) none,
              AV.sc true (Value.int IntKind.i64 9), AV.sc true (Value.int IntKind.i64 3),
              AV.sc true (Value.int IntKind.i64 0), AV.sc true (Value.int IntKind.i64 7),
              AV.sc true (Value.int IntKind.i64 0), AV.sc true (Value.int IntKind.i64 1492),
              AV.sc true (Value.int IntKind.i64 0), AV.sc true (Value.int IntKind.i64 0)],
          AV.sl true [Sh.int IntKind.i64, Sh.int IntKind.i64, Sh.sl [Sh.int IntKind.u8]]
            (D.l
              [D.t
                  [D.ki 1, D.ki 1,
                    D.kl
                      [D.t [D.ki 1], D.t [D.ki 4], D.ki 5, D.ki 212, D.t [D.ki 5], D.t [D.ki 6], D.ki 0, D.ki 0, D.ki 0,
                        D.ki 7]]])
            none,
          AV.sl true [Sh.int IntKind.i64] (D.l [D.t [D.ki 5], D.t [D.ki 7]]) none])
theorem oA2 : okV (treeR (evF Tryz.prog (gam (opG Tryz.prog)) (lam ([])) 100 50) oA2K) = some oA2R := by rw [← fvF_eq Tryz.prog (gam (opG Tryz.prog)) (lam ([])) true 100 50]; kernel_rfl
def oB2K : List AV := [cfK, tg oB1R 0, kk 1, kk 0]
def oB2R : AV :=
    (AV.tup
        [AV.agg
            [AV.sc true (Value.int IntKind.i64 6), AV.sc true (Value.int IntKind.i64 1),
              AV.sc true (Value.int IntKind.i64 1),
              AV.sl true [Sh.int IntKind.i64, Sh.sl [Sh.int IntKind.u8]]
                (D.kl [D.t [D.ki 1, D.kl [D.ki 5, D.ki 212]], D.t [D.ki 5, D.kl [D.ki 0, D.ki 0, D.ki 0, D.ki 9]]]) none,
              AV.sc true (Value.int IntKind.i64 9), AV.sc true (Value.int IntKind.i64 3),
              AV.sc true (Value.int IntKind.i64 0), AV.sc true (Value.int IntKind.i64 9),
              AV.sc true (Value.int IntKind.i64 0), AV.sc true (Value.int IntKind.i64 1492),
              AV.sc true (Value.int IntKind.i64 0), AV.sc true (Value.int IntKind.i64 0)],
          AV.sl true [Sh.int IntKind.i64, Sh.int IntKind.i64, Sh.sl [Sh.int IntKind.u8]]
            (D.l
              [D.t
                  [D.ki 1, D.ki 1,
                    D.kl
                      [D.t [D.ki 1], D.t [D.ki 4], D.ki 5, D.ki 212, D.t [D.ki 5], D.t [D.ki 6], D.ki 0, D.ki 0, D.ki 0,
                        D.ki 9]]])
            none,
          AV.sl true [Sh.int IntKind.i64] (D.l [D.t [D.ki 5], D.t [D.ki 7]]) none])
theorem oB2 : okV (treeR (evF Tryz.prog (gam (opG Tryz.prog)) (lam ([])) 100 50) oB2K) = some oB2R := by rw [← fvF_eq Tryz.prog (gam (opG Tryz.prog)) (lam ([])) true 100 50]; kernel_rfl
end
end Go.Proofs.YtcambhbmobepjaaGreat

namespace Go.Proofs.YtcambhbmobepjaaGreat
set_option linter.unusedSimpArgs false
set_option linter.unusedVariables false
open Go.RowKit
set_option maxRecDepth 100000
noncomputable section
-- FAST
def oB3K : List AV := [cfK, tg oB2R 0, elt (tg oA2R 1) 0, kk 0]
def oB3R : AV :=
    (AV.tup
        [AV.agg
            [AV.sc true (Value.int IntKind.i64 8), AV.sc true (Value.int IntKind.i64 1),
              AV.sc true (Value.int IntKind.i64 1),
              AV.sl true [Sh.int IntKind.i64, Sh.sl [Sh.int IntKind.u8]]
                (D.kl [D.t [D.ki 1, D.kl [D.ki 5, D.ki 212]], D.t [D.ki 5, D.kl [D.ki 0, D.ki 0, D.ki 0, D.ki 9]]]) none,
              AV.sc true (Value.int IntKind.i64 9), AV.sc true (Value.int IntKind.i64 3),
              AV.sc true (Value.int IntKind.i64 0), AV.sc true (Value.int IntKind.i64 9),
              AV.sc true (Value.int IntKind.i64 7), AV.sc true (Value.int IntKind.i64 1492),
              AV.sc true (Value.int IntKind.i64 0), AV.sc true (Value.int IntKind.i64 0)],
          AV.sl true [Sh.int IntKind.i64, Sh.int IntKind.i64, Sh.sl [Sh.int IntKind.u8]]
            (D.l
              [D.t
                  [D.ki 2, D.ki 1,
                    D.kl
                      [D.t [D.ki 1], D.t [D.ki 4], D.ki 5, D.ki 212, D.t [D.ki 5], D.t [D.ki 6], D.ki 0, D.ki 0, D.ki 0,
                        D.ki 7]]])
            none,
          AV.sl true [Sh.int IntKind.i64] (D.l [D.t [D.ki 8]]) none])
theorem oB3 : okV (treeR (evF Tryz.prog (gam (opG Tryz.prog)) (lam ([])) 100 31) oB3K) = some oB3R := by rw [← fvF_eq Tryz.prog (gam (opG Tryz.prog)) (lam ([])) true 100 31]; kernel_rfl
def oA3K : List AV := [cfK, tg oA2R 0, elt (tg oB2R 1) 0, kk 0]
def oA3R : AV :=
    (AV.tup
        [AV.agg
            [AV.sc true (Value.int IntKind.i64 8), AV.sc true (Value.int IntKind.i64 1),
              AV.sc true (Value.int IntKind.i64 1),
              AV.sl true [Sh.int IntKind.i64, Sh.sl [Sh.int IntKind.u8]]
                (D.kl [D.t [D.ki 1, D.kl [D.ki 5, D.ki 212]], D.t [D.ki 5, D.kl [D.ki 0, D.ki 0, D.ki 0, D.ki 7]]]) none,
              AV.sc true (Value.int IntKind.i64 9), AV.sc true (Value.int IntKind.i64 3),
              AV.sc true (Value.int IntKind.i64 0), AV.sc true (Value.int IntKind.i64 7),
              AV.sc true (Value.int IntKind.i64 9), AV.sc true (Value.int IntKind.i64 1492),
              AV.sc true (Value.int IntKind.i64 0), AV.sc true (Value.int IntKind.i64 0)],
          AV.sl true [Sh.int IntKind.i64, Sh.int IntKind.i64, Sh.sl [Sh.int IntKind.u8]]
            (D.l
              [D.t
                  [D.ki 2, D.ki 1,
                    D.kl
                      [D.t [D.ki 1], D.t [D.ki 4], D.ki 5, D.ki 212, D.t [D.ki 5], D.t [D.ki 6], D.ki 0, D.ki 0, D.ki 0,
                        D.ki 9]]])
            none,
          AV.sl true [Sh.int IntKind.i64] (D.l [D.t [D.ki 8]]) none])
theorem oA3 : okV (treeR (evF Tryz.prog (gam (opG Tryz.prog)) (lam ([])) 100 31) oA3K) = some oA3R := by rw [← fvF_eq Tryz.prog (gam (opG Tryz.prog)) (lam ([])) true 100 31]; kernel_rfl
end
end Go.Proofs.YtcambhbmobepjaaGreat

namespace Go.Proofs.YtcambhbmobepjaaGreat
set_option linter.unusedSimpArgs false
set_option linter.unusedVariables false
open Go.RowKit
set_option maxRecDepth 100000
noncomputable section
-- FAST
def oB4K : List AV := [cfK, tg oB3R 0, elt (tg oA3R 1) 0, kk 0]
def oB4R : AV :=
    (AV.tup
        [AV.agg
            [AV.sc true (Value.int IntKind.i64 9), AV.sc true (Value.int IntKind.i64 1),
              AV.sc true (Value.int IntKind.i64 1),
              AV.sl true [Sh.int IntKind.i64, Sh.sl [Sh.int IntKind.u8]]
                (D.kl [D.t [D.ki 1, D.kl [D.ki 5, D.ki 212]], D.t [D.ki 5, D.kl [D.ki 0, D.ki 0, D.ki 0, D.ki 9]]]) none,
              AV.sc true (Value.int IntKind.i64 10), AV.sc true (Value.int IntKind.i64 0),
              AV.sc true (Value.int IntKind.i64 0), AV.sc true (Value.int IntKind.i64 9),
              AV.sc true (Value.int IntKind.i64 7), AV.sc true (Value.int IntKind.i64 1492),
              AV.sc true (Value.int IntKind.i64 0), AV.sc true (Value.int IntKind.i64 10)],
          AV.sl true [Sh.int IntKind.i64, Sh.int IntKind.i64, Sh.sl [Sh.int IntKind.u8]] (D.l []) none,
          AV.sl true [Sh.int IntKind.i64] (D.l [D.t [D.ki 5], D.t [D.ki 1]]) none])
theorem oB4 : okV (treeR (evF Tryz.prog (gam (opG Tryz.prog)) (lam ([])) 100 31) oB4K) = some oB4R := by rw [← fvF_eq Tryz.prog (gam (opG Tryz.prog)) (lam ([])) true 100 31]; kernel_rfl
def oA4K : List AV := [cfK, tg oA3R 0, elt (tg oB3R 1) 0, kk 0]
def oA4R : AV :=
    (AV.tup
        [AV.agg
            [AV.sc true (Value.int IntKind.i64 9), AV.sc true (Value.int IntKind.i64 1),
              AV.sc true (Value.int IntKind.i64 1),
              AV.sl true [Sh.int IntKind.i64, Sh.sl [Sh.int IntKind.u8]]
                (D.kl [D.t [D.ki 1, D.kl [D.ki 5, D.ki 212]], D.t [D.ki 5, D.kl [D.ki 0, D.ki 0, D.ki 0, D.ki 7]]]) none,
              AV.sc true (Value.int IntKind.i64 10), AV.sc true (Value.int IntKind.i64 0),
              AV.sc true (Value.int IntKind.i64 0), AV.sc true (Value.int IntKind.i64 7),
              AV.sc true (Value.int IntKind.i64 9), AV.sc true (Value.int IntKind.i64 1492),
              AV.sc true (Value.int IntKind.i64 0), AV.sc true (Value.int IntKind.i64 10)],
          AV.sl true [Sh.int IntKind.i64, Sh.int IntKind.i64, Sh.sl [Sh.int IntKind.u8]] (D.l []) none,
          AV.sl true [Sh.int IntKind.i64] (D.l [D.t [D.ki 5], D.t [D.ki 1]]) none])
theorem oA4 : okV (treeR (evF Tryz.prog (gam (opG Tryz.prog)) (lam ([])) 100 31) oA4K) = some oA4R := by rw [← fvF_eq Tryz.prog (gam (opG Tryz.prog)) (lam ([])) true 100 31]; kernel_rfl
end
end Go.Proofs.YtcambhbmobepjaaGreat

namespace Go.Proofs.YtcambhbmobepjaaGreat
set_option linter.unusedSimpArgs false
set_option linter.unusedVariables false
open Go.RowKit
set_option maxRecDepth 100000
noncomputable section
-- FAST

-- DEFS
def e7G (P : Program) : List (FuncId × Spec) := [(60, pureS P 60 FEnc7), (30, pureS P 30 FEnc7), (107, pureS P 107 FJoin7), (32, pureS P 32 FJoin7)]
def rej7E (c i : Int) (d : D) (id : Int) : Int := if 0 ≤ id ∧ id ≤ 255 then enc7E c i d else 1
def rej7D (c i : Int) (d : D) (id : Int) : D := if rej7E c i d id = 0 then D.sub (enc7D c i d) 0 (min (enc7D c i d).len 1488) else .l []
def rej7C (e c : Int) : Int := if e = 0 then c else 0
def FRej7 : List AV → RT AV
  | [.agg [.sc false (.int .i64 c), .sc false (.int .i64 i), .sl false [.int .u8] d none], .sc false (.int .i64 id)] => .ok (.tup [.agg [ai (rej7C (rej7E c i d id) 7), ai (rej7C (rej7E c i d id) id), asl byS (rej7D c i d id)], ai (rej7E c i d id)])
  | _ => .bad 244
def pro7E (p : Int) (d : D) (id : Int) : Int := if 0 ≤ id ∧ id ≤ 255 then join7E p d else 1
def pro7D (p : Int) (d : D) (id : Int) : D := if pro7E p d id = 0 then D.sub (join7D p d) 0 (min (join7D p d).len 1488) else .l []
def FPro7 : List AV → RT AV
  | [.agg [.sc false (.int .i64 p), .sl false [.int .u8] d none], .sc false (.int .i64 id)] => .ok (.tup [.agg [ai (rej7C (pro7E p d id) 8), ai (rej7C (pro7E p d id) id), asl byS (pro7D p d id)], ai (pro7E p d id)])
  | _ => .bad 245
-- END
-- STOPS: rej7E rej7D rej7C pro7E pro7D
theorem e7G_ok : GamL Tryz.prog (e7G Tryz.prog) := ⟨enc7_soundF, renc7_soundF, join7_soundF, rjoin7_soundF, trivial⟩
theorem rej7_tree (c i : Int) (d : D) (id : Int) : treeF (evF Tryz.prog (gam (e7G Tryz.prog)) (lam ([])) 100 210) [.agg [ai c, ai i, asl byS d], ai id] =
    RT.br (decide (0 ≤ id))
      (RT.br (!decide (id ≤ 255))
        (RT.ok
          (AV.tup
            [AV.agg
                [AV.sc true (Value.int IntKind.i64 0), AV.sc true (Value.int IntKind.i64 0),
                  AV.sc true (Value.slice none 0 0)],
              AV.sc true (Value.int IntKind.i64 1)]))
        (RT.br (enc7E c i d != 0)
          (RT.ok
            (AV.tup
              [AV.agg
                  [AV.sc true (Value.int IntKind.i64 0), AV.sc true (Value.int IntKind.i64 0),
                    AV.sc true (Value.slice none 0 0)],
                AV.sc false (Value.int IntKind.i64 (enc7E c i d))]))
          (RT.br
            (decide
              ((0 : Int) ≤ 0 ∧
                0 ≤ imin (↑(D.len (enc7D c i d)) : Int) 1488 ∧
                  imin (↑(D.len (enc7D c i d)) : Int) 1488 ≤ imin (↑(D.len (enc7D c i d)) : Int) 1488 ∧
                    imin (↑(D.len (enc7D c i d)) : Int) 1488 ≤ (↑(D.len (enc7D c i d)) : Int)))
            (RT.ok
              (AV.tup
                [AV.agg
                    [AV.sc true (Value.int IntKind.i64 7), AV.sc false (Value.int IntKind.i64 id),
                      AV.sl false [Sh.int IntKind.u8]
                        (D.app (D.l []) (D.sub (enc7D c i d) 0 (Int.toNat (imin (↑(D.len (enc7D c i d)) : Int) 1488))))
                        none],
                  AV.sc true (Value.int IntKind.i64 0)]))
            (RT.bad 37))))
      (RT.ok
        (AV.tup
          [AV.agg
              [AV.sc true (Value.int IntKind.i64 0), AV.sc true (Value.int IntKind.i64 0),
                AV.sc true (Value.slice none 0 0)],
            AV.sc true (Value.int IntKind.i64 1)])) := by rw [← fvF_eq Tryz.prog (gam (e7G Tryz.prog)) (lam ([])) false 100 210]; kernel_rfl
theorem rrej7_tree (c i : Int) (d : D) (id : Int) : treeF (evF Tryz.prog (gam (e7G Tryz.prog)) (lam ([])) 100 192) [.agg [ai c, ai i, asl byS d], ai id] =
    RT.br (decide (0 ≤ id))
      (RT.br (!decide (id ≤ 255))
        (RT.ok
          (AV.tup
            [AV.agg
                [AV.sc true (Value.int IntKind.i64 0), AV.sc true (Value.int IntKind.i64 0),
                  AV.sc true (Value.slice none 0 0)],
              AV.sc true (Value.int IntKind.i64 1)]))
        (RT.br (enc7E c i d != 0)
          (RT.ok
            (AV.tup
              [AV.agg
                  [AV.sc true (Value.int IntKind.i64 0), AV.sc true (Value.int IntKind.i64 0),
                    AV.sc true (Value.slice none 0 0)],
                AV.sc false (Value.int IntKind.i64 (enc7E c i d))]))
          (RT.br
            (decide
              ((0 : Int) ≤ 0 ∧
                0 ≤ imin (↑(D.len (enc7D c i d)) : Int) 1488 ∧
                  imin (↑(D.len (enc7D c i d)) : Int) 1488 ≤ (↑(D.len (enc7D c i d)) : Int) ∧
                    (↑(D.len (enc7D c i d)) : Int) ≤ (↑(D.len (enc7D c i d)) : Int)))
            (RT.ok
              (AV.tup
                [AV.agg
                    [AV.sc true (Value.int IntKind.i64 7), AV.sc false (Value.int IntKind.i64 id),
                      AV.sl false [Sh.int IntKind.u8]
                        (D.app (D.l []) (D.sub (enc7D c i d) 0 (Int.toNat (imin (↑(D.len (enc7D c i d)) : Int) 1488))))
                        none],
                  AV.sc true (Value.int IntKind.i64 0)]))
            (RT.bad 37))))
      (RT.ok
        (AV.tup
          [AV.agg
              [AV.sc true (Value.int IntKind.i64 0), AV.sc true (Value.int IntKind.i64 0),
                AV.sc true (Value.slice none 0 0)],
            AV.sc true (Value.int IntKind.i64 1)])) := by rw [← fvF_eq Tryz.prog (gam (e7G Tryz.prog)) (lam ([])) false 100 192]; kernel_rfl
theorem pro7_tree (p : Int) (d : D) (id : Int) : treeF (evF Tryz.prog (gam (e7G Tryz.prog)) (lam ([])) 100 70) [.agg [ai p, asl byS d], ai id] =
    RT.br (decide (0 ≤ id))
      (RT.br (!decide (id ≤ 255))
        (RT.ok
          (AV.tup
            [AV.agg
                [AV.sc true (Value.int IntKind.i64 0), AV.sc true (Value.int IntKind.i64 0),
                  AV.sc true (Value.slice none 0 0)],
              AV.sc true (Value.int IntKind.i64 1)]))
        (RT.br (join7E p d != 0)
          (RT.ok
            (AV.tup
              [AV.agg
                  [AV.sc true (Value.int IntKind.i64 0), AV.sc true (Value.int IntKind.i64 0),
                    AV.sc true (Value.slice none 0 0)],
                AV.sc false (Value.int IntKind.i64 (join7E p d))]))
          (RT.br
            (decide
              ((0 : Int) ≤ 0 ∧
                0 ≤ imin (↑(D.len (join7D p d)) : Int) 1488 ∧
                  imin (↑(D.len (join7D p d)) : Int) 1488 ≤ imin (↑(D.len (join7D p d)) : Int) 1488 ∧
                    imin (↑(D.len (join7D p d)) : Int) 1488 ≤ (↑(D.len (join7D p d)) : Int)))
            (RT.ok
              (AV.tup
                [AV.agg
                    [AV.sc true (Value.int IntKind.i64 8), AV.sc false (Value.int IntKind.i64 id),
                      AV.sl false [Sh.int IntKind.u8]
                        (D.app (D.l []) (D.sub (join7D p d) 0 (Int.toNat (imin (↑(D.len (join7D p d)) : Int) 1488)))) none],
                  AV.sc true (Value.int IntKind.i64 0)]))
            (RT.bad 37))))
      (RT.ok
        (AV.tup
          [AV.agg
              [AV.sc true (Value.int IntKind.i64 0), AV.sc true (Value.int IntKind.i64 0),
                AV.sc true (Value.slice none 0 0)],
            AV.sc true (Value.int IntKind.i64 1)])) := by rw [← fvF_eq Tryz.prog (gam (e7G Tryz.prog)) (lam ([])) false 100 70]; kernel_rfl
theorem rpro7_tree (p : Int) (d : D) (id : Int) : treeF (evF Tryz.prog (gam (e7G Tryz.prog)) (lam ([])) 100 112) [.agg [ai p, asl byS d], ai id] =
    RT.br (decide (0 ≤ id))
      (RT.br (!decide (id ≤ 255))
        (RT.ok
          (AV.tup
            [AV.agg
                [AV.sc true (Value.int IntKind.i64 0), AV.sc true (Value.int IntKind.i64 0),
                  AV.sc true (Value.slice none 0 0)],
              AV.sc true (Value.int IntKind.i64 1)]))
        (RT.br (join7E p d != 0)
          (RT.ok
            (AV.tup
              [AV.agg
                  [AV.sc true (Value.int IntKind.i64 0), AV.sc true (Value.int IntKind.i64 0),
                    AV.sc true (Value.slice none 0 0)],
                AV.sc false (Value.int IntKind.i64 (join7E p d))]))
          (RT.br
            (decide
              ((0 : Int) ≤ 0 ∧
                0 ≤ imin (↑(D.len (join7D p d)) : Int) 1488 ∧
                  imin (↑(D.len (join7D p d)) : Int) 1488 ≤ (↑(D.len (join7D p d)) : Int) ∧
                    (↑(D.len (join7D p d)) : Int) ≤ (↑(D.len (join7D p d)) : Int)))
            (RT.ok
              (AV.tup
                [AV.agg
                    [AV.sc true (Value.int IntKind.i64 8), AV.sc false (Value.int IntKind.i64 id),
                      AV.sl false [Sh.int IntKind.u8]
                        (D.app (D.l []) (D.sub (join7D p d) 0 (Int.toNat (imin (↑(D.len (join7D p d)) : Int) 1488)))) none],
                  AV.sc true (Value.int IntKind.i64 0)]))
            (RT.bad 37))))
      (RT.ok
        (AV.tup
          [AV.agg
              [AV.sc true (Value.int IntKind.i64 0), AV.sc true (Value.int IntKind.i64 0),
                AV.sc true (Value.slice none 0 0)],
            AV.sc true (Value.int IntKind.i64 1)])) := by rw [← fvF_eq Tryz.prog (gam (e7G Tryz.prog)) (lam ([])) false 100 112]; kernel_rfl
theorem appN_len (x : D) : ((D.l []).app x).len = x.len := by
  have h0 : (D.l []).len = 0 := nil_len
  rw [app_len (by rw [h0, Nat.zero_add]; exact x.len_le), h0, Nat.zero_add]
theorem appN_get (x : D) (i : Nat) : ((D.l []).app x).get i = x.get i := by
  have h0 : (D.l []).len = 0 := nil_len
  rw [app_get (by rw [h0, Nat.zero_add]; exact x.len_le), h0, if_neg (Nat.not_lt_zero _), Nat.sub_zero]
theorem le_appN {kn kn' : Bool} {es : List Sh} {x y : D} {tip : Option (Nat × Nat)} (h : x = y) : Le (.sl kn es ((D.l []).app x) tip) (.sl kn' es y none) := by
  subst h
  exact le_sl (appN_len x) fun i _ => by rw [appN_get]; exact eqEl_refl _ _ _
def tlE (E id : Int) : Int := if 0 ≤ id ∧ id ≤ 255 then E else 1
def tlD (E : Int) (X : D) (id : Int) : D := if tlE E id = 0 then D.sub X 0 (min X.len 1488) else .l []
theorem tell_holds {E id code : Int} {X : D} {K : AV → Prop} {b : Prop} [Decidable b] (hb : b) (H : K (.tup [.agg [ai (rej7C (tlE E id) code), ai (rej7C (tlE E id) id), asl byS (tlD E X id)], ai (tlE E id)])) :
    (RT.br (decide (0 ≤ id)) (RT.br (!decide (id ≤ 255)) (RT.ok (AV.tup [AV.agg [AV.sc true (Value.int IntKind.i64 0), AV.sc true (Value.int IntKind.i64 0), AV.sc true (Value.slice none 0 0)], AV.sc true (Value.int IntKind.i64 1)]))
      (RT.br (E != 0) (RT.ok (AV.tup [AV.agg [AV.sc true (Value.int IntKind.i64 0), AV.sc true (Value.int IntKind.i64 0), AV.sc true (Value.slice none 0 0)], AV.sc false (Value.int IntKind.i64 E)]))
        (RT.br (decide b) (RT.ok (AV.tup [AV.agg [AV.sc true (Value.int IntKind.i64 code), AV.sc false (Value.int IntKind.i64 id), AV.sl false [Sh.int IntKind.u8] (D.app (D.l []) (D.sub X 0 (Int.toNat (imin (↑(D.len X) : Int) 1488)))) none], AV.sc true (Value.int IntKind.i64 0)])) (RT.bad 37))))
      (RT.ok (AV.tup [AV.agg [AV.sc true (Value.int IntKind.i64 0), AV.sc true (Value.int IntKind.i64 0), AV.sc true (Value.slice none 0 0)], AV.sc true (Value.int IntKind.i64 1)]))).holds fun r => ∃ y, Le r y ∧ K y := by
  have bad : ∀ {e : Int} {k : Bool}, tlE E id = e → e ≠ 0 → ∃ y, Le (AV.tup [AV.agg [AV.sc true (Value.int IntKind.i64 0), AV.sc true (Value.int IntKind.i64 0), AV.sc true (Value.slice none 0 0)], AV.sc k (Value.int IntKind.i64 e)]) y ∧ K y := fun he h0 => by
    have hc : ∀ c, rej7C (tlE E id) c = 0 := fun c => by unfold rej7C; rw [if_neg (by rw [he]; exact h0)]
    exact ⟨_, le_two (le_agg (leL_cons (le_int (hc _).symm) (leL_cons (le_int (hc _).symm) (leL_cons (le_nil (by unfold tlD; rw [if_neg (by rw [he]; exact h0)]; exact nil_len)) leL_nil)))) (le_int he.symm), H⟩
  refine ⟨fun h1 => ⟨fun h2 => bad ?_ (by decide), fun h2 => ⟨fun h3 => bad ?_ ?_, fun h3 => ⟨fun _ => ?_, fun h => absurd hb (of_decide_eq_false h)⟩⟩⟩, fun h1 => bad ?_ (by decide)⟩
  all_goals simp only [decide_eq_true_eq, decide_eq_false_iff_not, Bool.not_eq_true', Bool.not_eq_false'] at *
  · unfold tlE; rw [if_neg (by omega)]
  · unfold tlE; rw [if_pos (by omega)]
  · exact bne_iff_ne.1 h3
  · have hE : E = 0 := by simpa using h3
    have he : tlE E id = 0 := by unfold tlE; rw [if_pos (by omega), hE]
    have hc : ∀ c, rej7C (tlE E id) c = c := fun c => by unfold rej7C; rw [if_pos he]
    refine ⟨_, le_two (le_agg (leL_cons (le_int (hc _).symm) (leL_cons (le_int (hc _).symm) (leL_cons (le_appN ?_) leL_nil)))) (le_int he.symm), H⟩
    unfold tlD
    rw [if_pos he]
    congr 1
    unfold imin
    split <;> omega
  · unfold tlE; rw [if_neg (by omega)]
theorem rej7_soundF : SoundF Tryz.prog 210 (pureS Tryz.prog 210 FRej7) := by
  refine pure_in (gs := e7G Tryz.prog) (ls := []) mixed e7G_ok trivial 210 100 fun args K ho H => ?_
  unfold FRej7 at H
  split at H
  · rename_i c i d id
    rw [rej7_tree]
    exact tell_holds (E := enc7E c i d) (X := enc7D c i d) (id := id) (code := 7) (by simp only [imin]; split <;> omega) H
  · exact H.elim
theorem rrej7_soundF : SoundF Tryz.prog 192 (pureS Tryz.prog 192 FRej7) := by
  refine pure_in (gs := e7G Tryz.prog) (ls := []) mixed e7G_ok trivial 192 100 fun args K ho H => ?_
  unfold FRej7 at H
  split at H
  · rename_i c i d id
    rw [rrej7_tree]
    exact tell_holds (E := enc7E c i d) (X := enc7D c i d) (id := id) (code := 7) (by simp only [imin]; split <;> omega) H
  · exact H.elim
theorem pro7_soundF : SoundF Tryz.prog 70 (pureS Tryz.prog 70 FPro7) := by
  refine pure_in (gs := e7G Tryz.prog) (ls := []) mixed e7G_ok trivial 70 100 fun args K ho H => ?_
  unfold FPro7 at H
  split at H
  · rename_i p d id
    rw [pro7_tree]
    exact tell_holds (E := join7E p d) (X := join7D p d) (id := id) (code := 8) (by simp only [imin]; split <;> omega) H
  · exact H.elim
theorem rpro7_soundF : SoundF Tryz.prog 112 (pureS Tryz.prog 112 FPro7) := by
  refine pure_in (gs := e7G Tryz.prog) (ls := []) mixed e7G_ok trivial 112 100 fun args K ho H => ?_
  unfold FPro7 at H
  split at H
  · rename_i p d id
    rw [rpro7_tree]
    exact tell_holds (E := join7E p d) (X := join7D p d) (id := id) (code := 8) (by simp only [imin]; split <;> omega) H
  · exact H.elim
end
end Go.Proofs.YtcambhbmobepjaaGreat

namespace Go.Proofs.YtcambhbmobepjaaGreat
set_option linter.unusedSimpArgs false
set_option linter.unusedVariables false
open Go.RowKit
set_option maxRecDepth 100000
noncomputable section
-- FAST

-- DEFS
/-- what is not looked at -/
def cutS : Spec := fun _ _ => .bad 999
def cutB : BSpec := fun _ _ => .bad 998
def cutG (P : Program) : List (FuncId × Spec) := (64, cutS) :: (65, cutS) :: (66, cutS) :: (67, cutS) ::
  (210, pureS P 210 FRej7) :: (70, pureS P 70 FPro7) :: opG P
def cutL : List (FuncId × Nat × BSpec) := [(181, 2000, cutB)]
-- END
theorem cut_ok {P : Program} {f : FuncId} : SoundF P f cutS := fun _ _ _ H => H.elim
theorem cutG_ok : GamL Tryz.prog (cutG Tryz.prog) := ⟨cut_ok, cut_ok, cut_ok, cut_ok, rej7_soundF, pro7_soundF, opG_ok⟩
theorem cutL_ok : LamL Tryz.prog cutL := ⟨fun _ _ _ _ _ _ _ _ H => H.elim, trivial⟩
theorem non_tree (c i : Int) (d : D) : treeR (evF Tryz.prog (gam (cutG Tryz.prog)) (lam (cutL)) 100 31) [cfK, tg oA4R 0, .agg [ai c, ai i, asl byS d], kk 3] =
    RT.br (enc7E c i d != 0)
      (RT.ok
        (AV.tup
          [AV.agg
              [AV.sc true (Value.int IntKind.i64 9), AV.sc true (Value.int IntKind.i64 1),
                AV.sc true (Value.int IntKind.i64 1),
                AV.sl true [Sh.int IntKind.i64, Sh.sl [Sh.int IntKind.u8]]
                  (D.kl [D.t [D.ki 1, D.kl [D.ki 5, D.ki 212]], D.t [D.ki 5, D.kl [D.ki 0, D.ki 0, D.ki 0, D.ki 7]]]) none,
                AV.sc true (Value.int IntKind.i64 10), AV.sc true (Value.int IntKind.i64 0),
                AV.sc true (Value.int IntKind.i64 0), AV.sc true (Value.int IntKind.i64 7),
                AV.sc true (Value.int IntKind.i64 9), AV.sc true (Value.int IntKind.i64 1492),
                AV.sc true (Value.int IntKind.i64 0), AV.sc true (Value.int IntKind.i64 10)],
            AV.sc true (Value.slice none 0 0), AV.sc true (Value.slice none 0 0)]))
      (RT.br (c == 1) (RT.bad 999)
        (RT.br (c == 2) (RT.bad 999)
          (RT.br (c == 3) (RT.bad 999)
            (RT.br (c == 4) (RT.bad 999)
              (RT.br (c == 5) (RT.bad 999)
                (RT.br (c == 6) (RT.bad 999)
                  (RT.br (c == 7) (RT.bad 999)
                    (RT.br (c == 8) (RT.bad 999)
                      (RT.br (c == 9) (RT.bad 999)
                        (RT.br (c == 10) (RT.bad 999)
                          (RT.br (c == 11)
                            (RT.ok
                              (AV.tup
                                [AV.agg
                                    [AV.sc true (Value.int IntKind.i64 9), AV.sc true (Value.int IntKind.i64 1),
                                      AV.sc true (Value.int IntKind.i64 1),
                                      AV.sl true [Sh.int IntKind.i64, Sh.sl [Sh.int IntKind.u8]]
                                        (D.kl
                                          [D.t [D.ki 1, D.kl [D.ki 5, D.ki 212]],
                                            D.t [D.ki 5, D.kl [D.ki 0, D.ki 0, D.ki 0, D.ki 7]]])
                                        none,
                                      AV.sc true (Value.int IntKind.i64 10), AV.sc true (Value.int IntKind.i64 0),
                                      AV.sc true (Value.int IntKind.i64 0), AV.sc true (Value.int IntKind.i64 7),
                                      AV.sc true (Value.int IntKind.i64 9), AV.sc true (Value.int IntKind.i64 1492),
                                      AV.sc true (Value.int IntKind.i64 0), AV.sc true (Value.int IntKind.i64 10)],
                                  AV.sc true (Value.slice none 0 0), AV.sc true (Value.slice none 0 0)]))
                            (RT.all
                              (RT.all
                                (RT.all
                                  (RT.br (rej7E c i d 2 == 0)
                                    (RT.ok
                                      (AV.tup
                                        [AV.agg
                                            [AV.sc true (Value.int IntKind.i64 9), AV.sc true (Value.int IntKind.i64 2),
                                              AV.sc true (Value.int IntKind.i64 1),
                                              AV.sl true [Sh.int IntKind.i64, Sh.sl [Sh.int IntKind.u8]]
                                                (D.kl
                                                  [D.t [D.ki 1, D.kl [D.ki 5, D.ki 212]],
                                                    D.t [D.ki 5, D.kl [D.ki 0, D.ki 0, D.ki 0, D.ki 7]]])
                                                none,
                                              AV.sc true (Value.int IntKind.i64 10), AV.sc true (Value.int IntKind.i64 0),
                                              AV.sc true (Value.int IntKind.i64 0), AV.sc true (Value.int IntKind.i64 7),
                                              AV.sc true (Value.int IntKind.i64 9), AV.sc true (Value.int IntKind.i64 1492),
                                              AV.sc true (Value.int IntKind.i64 0), AV.sc true (Value.int IntKind.i64 10)],
                                          AV.sl true [Sh.int IntKind.i64, Sh.int IntKind.i64, Sh.sl [Sh.int IntKind.u8]]
                                            (D.app (D.l [])
                                              (D.app (D.l [])
                                                (D.l
                                                  [D.t
                                                      [D.i (rej7C (rej7E c i d 2) 7), D.i (rej7C (rej7E c i d 2) 2),
                                                        rej7D c i d 2]])))
                                            none,
                                          AV.sl true [Sh.int IntKind.i64] (D.app (D.l []) (D.l [D.t [D.ki 12]])) none]))
                                    (RT.ok
                                      (AV.tup
                                        [AV.agg
                                            [AV.sc true (Value.int IntKind.i64 9), AV.sc true (Value.int IntKind.i64 2),
                                              AV.sc true (Value.int IntKind.i64 1),
                                              AV.sl true [Sh.int IntKind.i64, Sh.sl [Sh.int IntKind.u8]]
                                                (D.kl
                                                  [D.t [D.ki 1, D.kl [D.ki 5, D.ki 212]],
                                                    D.t [D.ki 5, D.kl [D.ki 0, D.ki 0, D.ki 0, D.ki 7]]])
                                                none,
                                              AV.sc true (Value.int IntKind.i64 10), AV.sc true (Value.int IntKind.i64 0),
                                              AV.sc true (Value.int IntKind.i64 0), AV.sc true (Value.int IntKind.i64 7),
                                              AV.sc true (Value.int IntKind.i64 9), AV.sc true (Value.int IntKind.i64 1492),
                                              AV.sc true (Value.int IntKind.i64 0), AV.sc true (Value.int IntKind.i64 10)],
                                          AV.sl true [Sh.int IntKind.i64, Sh.int IntKind.i64, Sh.sl [Sh.int IntKind.u8]]
                                            (D.app (D.l []) (D.l [])) none,
                                          AV.sl true [Sh.int IntKind.i64] (D.app (D.l []) (D.l [D.t [D.ki 12]])) none])))
                                  (RT.br (rej7E c i d 2 == 0)
                                    (RT.ok
                                      (AV.tup
                                        [AV.agg
                                            [AV.sc true (Value.int IntKind.i64 9), AV.sc true (Value.int IntKind.i64 2),
                                              AV.sc true (Value.int IntKind.i64 1),
                                              AV.sl true [Sh.int IntKind.i64, Sh.sl [Sh.int IntKind.u8]]
                                                (D.kl
                                                  [D.t [D.ki 1, D.kl [D.ki 5, D.ki 212]],
                                                    D.t [D.ki 5, D.kl [D.ki 0, D.ki 0, D.ki 0, D.ki 7]]])
                                                none,
                                              AV.sc true (Value.int IntKind.i64 10), AV.sc true (Value.int IntKind.i64 0),
                                              AV.sc true (Value.int IntKind.i64 0), AV.sc true (Value.int IntKind.i64 7),
                                              AV.sc true (Value.int IntKind.i64 9), AV.sc true (Value.int IntKind.i64 1492),
                                              AV.sc true (Value.int IntKind.i64 0), AV.sc true (Value.int IntKind.i64 10)],
                                          AV.sl true [Sh.int IntKind.i64, Sh.int IntKind.i64, Sh.sl [Sh.int IntKind.u8]]
                                            (D.app (D.l [])
                                              (D.app (D.l [])
                                                (D.l
                                                  [D.t
                                                      [D.i (rej7C (rej7E c i d 2) 7), D.i (rej7C (rej7E c i d 2) 2),
                                                        rej7D c i d 2]])))
                                            none,
                                          AV.sl true [Sh.int IntKind.i64] (D.app (D.l []) (D.l [D.t [D.ki 12]])) none]))
                                    (RT.ok
                                      (AV.tup
                                        [AV.agg
                                            [AV.sc true (Value.int IntKind.i64 9), AV.sc true (Value.int IntKind.i64 2),
                                              AV.sc true (Value.int IntKind.i64 1),
                                              AV.sl true [Sh.int IntKind.i64, Sh.sl [Sh.int IntKind.u8]]
                                                (D.kl
                                                  [D.t [D.ki 1, D.kl [D.ki 5, D.ki 212]],
                                                    D.t [D.ki 5, D.kl [D.ki 0, D.ki 0, D.ki 0, D.ki 7]]])
                                                none,
                                              AV.sc true (Value.int IntKind.i64 10), AV.sc true (Value.int IntKind.i64 0),
                                              AV.sc true (Value.int IntKind.i64 0), AV.sc true (Value.int IntKind.i64 7),
                                              AV.sc true (Value.int IntKind.i64 9), AV.sc true (Value.int IntKind.i64 1492),
                                              AV.sc true (Value.int IntKind.i64 0), AV.sc true (Value.int IntKind.i64 10)],
                                          AV.sl true [Sh.int IntKind.i64, Sh.int IntKind.i64, Sh.sl [Sh.int IntKind.u8]]
                                            (D.app (D.l []) (D.l [])) none,
                                          AV.sl true [Sh.int IntKind.i64] (D.app (D.l []) (D.l [D.t [D.ki 12]])) none]))))
                                (RT.br (rej7E c i d 2 == 0)
                                  (RT.ok
                                    (AV.tup
                                      [AV.agg
                                          [AV.sc true (Value.int IntKind.i64 9), AV.sc true (Value.int IntKind.i64 2),
                                            AV.sc true (Value.int IntKind.i64 1),
                                            AV.sl true [Sh.int IntKind.i64, Sh.sl [Sh.int IntKind.u8]]
                                              (D.kl
                                                [D.t [D.ki 1, D.kl [D.ki 5, D.ki 212]],
                                                  D.t [D.ki 5, D.kl [D.ki 0, D.ki 0, D.ki 0, D.ki 7]]])
                                              none,
                                            AV.sc true (Value.int IntKind.i64 10), AV.sc true (Value.int IntKind.i64 0),
                                            AV.sc true (Value.int IntKind.i64 0), AV.sc true (Value.int IntKind.i64 7),
                                            AV.sc true (Value.int IntKind.i64 9), AV.sc true (Value.int IntKind.i64 1492),
                                            AV.sc true (Value.int IntKind.i64 0), AV.sc true (Value.int IntKind.i64 10)],
                                        AV.sl true [Sh.int IntKind.i64, Sh.int IntKind.i64, Sh.sl [Sh.int IntKind.u8]]
                                          (D.app (D.l [])
                                            (D.app (D.l [])
                                              (D.l
                                                [D.t
                                                    [D.i (rej7C (rej7E c i d 2) 7), D.i (rej7C (rej7E c i d 2) 2),
                                                      rej7D c i d 2]])))
                                          none,
                                        AV.sl true [Sh.int IntKind.i64] (D.app (D.l []) (D.l [D.t [D.ki 12]])) none]))
                                  (RT.ok
                                    (AV.tup
                                      [AV.agg
                                          [AV.sc true (Value.int IntKind.i64 9), AV.sc true (Value.int IntKind.i64 2),
                                            AV.sc true (Value.int IntKind.i64 1),
                                            AV.sl true [Sh.int IntKind.i64, Sh.sl [Sh.int IntKind.u8]]
                                              (D.kl
                                                [D.t [D.ki 1, D.kl [D.ki 5, D.ki 212]],
                                                  D.t [D.ki 5, D.kl [D.ki 0, D.ki 0, D.ki 0, D.ki 7]]])
                                              none,
                                            AV.sc true (Value.int IntKind.i64 10), AV.sc true (Value.int IntKind.i64 0),
                                            AV.sc true (Value.int IntKind.i64 0), AV.sc true (Value.int IntKind.i64 7),
                                            AV.sc true (Value.int IntKind.i64 9), AV.sc true (Value.int IntKind.i64 1492),
                                            AV.sc true (Value.int IntKind.i64 0), AV.sc true (Value.int IntKind.i64 10)],
                                        AV.sl true [Sh.int IntKind.i64, Sh.int IntKind.i64, Sh.sl [Sh.int IntKind.u8]]
                                          (D.app (D.l []) (D.l [])) none,
                                        AV.sl true [Sh.int IntKind.i64] (D.app (D.l []) (D.l [D.t [D.ki 12]])) none]))))
                              (RT.all
                                (RT.all
                                  (RT.all
                                    (RT.br (rej7E c i d 2 == 0)
                                      (RT.ok
                                        (AV.tup
                                          [AV.agg
                                              [AV.sc true (Value.int IntKind.i64 9), AV.sc true (Value.int IntKind.i64 2),
                                                AV.sc true (Value.int IntKind.i64 1),
                                                AV.sl true [Sh.int IntKind.i64, Sh.sl [Sh.int IntKind.u8]]
                                                  (D.kl
                                                    [D.t [D.ki 1, D.kl [D.ki 5, D.ki 212]],
                                                      D.t [D.ki 5, D.kl [D.ki 0, D.ki 0, D.ki 0, D.ki 7]]])
                                                  none,
                                                AV.sc true (Value.int IntKind.i64 10), AV.sc true (Value.int IntKind.i64 0),
                                                AV.sc true (Value.int IntKind.i64 0), AV.sc true (Value.int IntKind.i64 7),
                                                AV.sc true (Value.int IntKind.i64 9),
                                                AV.sc true (Value.int IntKind.i64 1492),
                                                AV.sc true (Value.int IntKind.i64 0),
                                                AV.sc true (Value.int IntKind.i64 10)],
                                            AV.sl true [Sh.int IntKind.i64, Sh.int IntKind.i64, Sh.sl [Sh.int IntKind.u8]]
                                              (D.app (D.l [])
                                                (D.app (D.l [])
                                                  (D.l
                                                    [D.t
                                                        [D.i (rej7C (rej7E c i d 2) 7), D.i (rej7C (rej7E c i d 2) 2),
                                                          rej7D c i d 2]])))
                                              none,
                                            AV.sl true [Sh.int IntKind.i64] (D.app (D.l []) (D.l [D.t [D.ki 12]])) none]))
                                      (RT.ok
                                        (AV.tup
                                          [AV.agg
                                              [AV.sc true (Value.int IntKind.i64 9), AV.sc true (Value.int IntKind.i64 2),
                                                AV.sc true (Value.int IntKind.i64 1),
                                                AV.sl true [Sh.int IntKind.i64, Sh.sl [Sh.int IntKind.u8]]
                                                  (D.kl
                                                    [D.t [D.ki 1, D.kl [D.ki 5, D.ki 212]],
                                                      D.t [D.ki 5, D.kl [D.ki 0, D.ki 0, D.ki 0, D.ki 7]]])
                                                  none,
                                                AV.sc true (Value.int IntKind.i64 10), AV.sc true (Value.int IntKind.i64 0),
                                                AV.sc true (Value.int IntKind.i64 0), AV.sc true (Value.int IntKind.i64 7),
                                                AV.sc true (Value.int IntKind.i64 9),
                                                AV.sc true (Value.int IntKind.i64 1492),
                                                AV.sc true (Value.int IntKind.i64 0),
                                                AV.sc true (Value.int IntKind.i64 10)],
                                            AV.sl true [Sh.int IntKind.i64, Sh.int IntKind.i64, Sh.sl [Sh.int IntKind.u8]]
                                              (D.app (D.l []) (D.l [])) none,
                                            AV.sl true [Sh.int IntKind.i64] (D.app (D.l []) (D.l [D.t [D.ki 12]])) none])))
                                    (RT.br (rej7E c i d 2 == 0)
                                      (RT.ok
                                        (AV.tup
                                          [AV.agg
                                              [AV.sc true (Value.int IntKind.i64 9), AV.sc true (Value.int IntKind.i64 2),
                                                AV.sc true (Value.int IntKind.i64 1),
                                                AV.sl true [Sh.int IntKind.i64, Sh.sl [Sh.int IntKind.u8]]
                                                  (D.kl
                                                    [D.t [D.ki 1, D.kl [D.ki 5, D.ki 212]],
                                                      D.t [D.ki 5, D.kl [D.ki 0, D.ki 0, D.ki 0, D.ki 7]]])
                                                  none,
                                                AV.sc true (Value.int IntKind.i64 10), AV.sc true (Value.int IntKind.i64 0),
                                                AV.sc true (Value.int IntKind.i64 0), AV.sc true (Value.int IntKind.i64 7),
                                                AV.sc true (Value.int IntKind.i64 9),
                                                AV.sc true (Value.int IntKind.i64 1492),
                                                AV.sc true (Value.int IntKind.i64 0),
                                                AV.sc true (Value.int IntKind.i64 10)],
                                            AV.sl true [Sh.int IntKind.i64, Sh.int IntKind.i64, Sh.sl [Sh.int IntKind.u8]]
                                              (D.app (D.l [])
                                                (D.app (D.l [])
                                                  (D.l
                                                    [D.t
                                                        [D.i (rej7C (rej7E c i d 2) 7), D.i (rej7C (rej7E c i d 2) 2),
                                                          rej7D c i d 2]])))
                                              none,
                                            AV.sl true [Sh.int IntKind.i64] (D.app (D.l []) (D.l [D.t [D.ki 12]])) none]))
                                      (RT.ok
                                        (AV.tup
                                          [AV.agg
                                              [AV.sc true (Value.int IntKind.i64 9), AV.sc true (Value.int IntKind.i64 2),
                                                AV.sc true (Value.int IntKind.i64 1),
                                                AV.sl true [Sh.int IntKind.i64, Sh.sl [Sh.int IntKind.u8]]
                                                  (D.kl
                                                    [D.t [D.ki 1, D.kl [D.ki 5, D.ki 212]],
                                                      D.t [D.ki 5, D.kl [D.ki 0, D.ki 0, D.ki 0, D.ki 7]]])
                                                  none,
                                                AV.sc true (Value.int IntKind.i64 10), AV.sc true (Value.int IntKind.i64 0),
                                                AV.sc true (Value.int IntKind.i64 0), AV.sc true (Value.int IntKind.i64 7),
                                                AV.sc true (Value.int IntKind.i64 9),
                                                AV.sc true (Value.int IntKind.i64 1492),
                                                AV.sc true (Value.int IntKind.i64 0),
                                                AV.sc true (Value.int IntKind.i64 10)],
                                            AV.sl true [Sh.int IntKind.i64, Sh.int IntKind.i64, Sh.sl [Sh.int IntKind.u8]]
                                              (D.app (D.l []) (D.l [])) none,
                                            AV.sl true [Sh.int IntKind.i64] (D.app (D.l []) (D.l [D.t [D.ki 12]])) none]))))
                                  (RT.br (rej7E c i d 2 == 0)
                                    (RT.ok
                                      (AV.tup
                                        [AV.agg
                                            [AV.sc true (Value.int IntKind.i64 9), AV.sc true (Value.int IntKind.i64 2),
                                              AV.sc true (Value.int IntKind.i64 1),
                                              AV.sl true [Sh.int IntKind.i64, Sh.sl [Sh.int IntKind.u8]]
                                                (D.kl
                                                  [D.t [D.ki 1, D.kl [D.ki 5, D.ki 212]],
                                                    D.t [D.ki 5, D.kl [D.ki 0, D.ki 0, D.ki 0, D.ki 7]]])
                                                none,
                                              AV.sc true (Value.int IntKind.i64 10), AV.sc true (Value.int IntKind.i64 0),
                                              AV.sc true (Value.int IntKind.i64 0), AV.sc true (Value.int IntKind.i64 7),
                                              AV.sc true (Value.int IntKind.i64 9), AV.sc true (Value.int IntKind.i64 1492),
                                              AV.sc true (Value.int IntKind.i64 0), AV.sc true (Value.int IntKind.i64 10)],
                                          AV.sl true [Sh.int IntKind.i64, Sh.int IntKind.i64, Sh.sl [Sh.int IntKind.u8]]
                                            (D.app (D.l [])
                                              (D.app (D.l [])
                                                (D.l
                                                  [D.t
                                                      [D.i (rej7C (rej7E c i d 2) 7), D.i (rej7C (rej7E c i d 2) 2),
                                                        rej7D c i d 2]])))
                                            none,
                                          AV.sl true [Sh.int IntKind.i64] (D.app (D.l []) (D.l [D.t [D.ki 12]])) none]))
                                    (RT.ok
                                      (AV.tup
                                        [AV.agg
                                            [AV.sc true (Value.int IntKind.i64 9), AV.sc true (Value.int IntKind.i64 2),
                                              AV.sc true (Value.int IntKind.i64 1),
                                              AV.sl true [Sh.int IntKind.i64, Sh.sl [Sh.int IntKind.u8]]
                                                (D.kl
                                                  [D.t [D.ki 1, D.kl [D.ki 5, D.ki 212]],
                                                    D.t [D.ki 5, D.kl [D.ki 0, D.ki 0, D.ki 0, D.ki 7]]])
                                                none,
                                              AV.sc true (Value.int IntKind.i64 10), AV.sc true (Value.int IntKind.i64 0),
                                              AV.sc true (Value.int IntKind.i64 0), AV.sc true (Value.int IntKind.i64 7),
                                              AV.sc true (Value.int IntKind.i64 9), AV.sc true (Value.int IntKind.i64 1492),
                                              AV.sc true (Value.int IntKind.i64 0), AV.sc true (Value.int IntKind.i64 10)],
                                          AV.sl true [Sh.int IntKind.i64, Sh.int IntKind.i64, Sh.sl [Sh.int IntKind.u8]]
                                            (D.app (D.l []) (D.l [])) none,
                                          AV.sl true [Sh.int IntKind.i64] (D.app (D.l []) (D.l [D.t [D.ki 12]])) none]))))
                                (RT.all
                                  (RT.br (rej7E c i d 2 == 0)
                                    (RT.ok
                                      (AV.tup
                                        [AV.agg
                                            [AV.sc true (Value.int IntKind.i64 9), AV.sc true (Value.int IntKind.i64 2),
                                              AV.sc true (Value.int IntKind.i64 1),
                                              AV.sl true [Sh.int IntKind.i64, Sh.sl [Sh.int IntKind.u8]]
                                                (D.kl
                                                  [D.t [D.ki 1, D.kl [D.ki 5, D.ki 212]],
                                                    D.t [D.ki 5, D.kl [D.ki 0, D.ki 0, D.ki 0, D.ki 7]]])
                                                none,
                                              AV.sc true (Value.int IntKind.i64 10), AV.sc true (Value.int IntKind.i64 0),
                                              AV.sc true (Value.int IntKind.i64 0), AV.sc true (Value.int IntKind.i64 7),
                                              AV.sc true (Value.int IntKind.i64 9), AV.sc true (Value.int IntKind.i64 1492),
                                              AV.sc true (Value.int IntKind.i64 0), AV.sc true (Value.int IntKind.i64 10)],
                                          AV.sl true [Sh.int IntKind.i64, Sh.int IntKind.i64, Sh.sl [Sh.int IntKind.u8]]
                                            (D.app (D.l [])
                                              (D.app (D.l [])
                                                (D.l
                                                  [D.t
                                                      [D.i (rej7C (rej7E c i d 2) 7), D.i (rej7C (rej7E c i d 2) 2),
                                                        rej7D c i d 2]])))
                                            none,
                                          AV.sl true [Sh.int IntKind.i64] (D.app (D.l []) (D.l [D.t [D.ki 12]])) none]))
                                    (RT.ok
                                      (AV.tup
                                        [AV.agg
                                            [AV.sc true (Value.int IntKind.i64 9), AV.sc true (Value.int IntKind.i64 2),
                                              AV.sc true (Value.int IntKind.i64 1),
                                              AV.sl true [Sh.int IntKind.i64, Sh.sl [Sh.int IntKind.u8]]
                                                (D.kl
                                                  [D.t [D.ki 1, D.kl [D.ki 5, D.ki 212]],
                                                    D.t [D.ki 5, D.kl [D.ki 0, D.ki 0, D.ki 0, D.ki 7]]])
                                                none,
                                              AV.sc true (Value.int IntKind.i64 10), AV.sc true (Value.int IntKind.i64 0),
                                              AV.sc true (Value.int IntKind.i64 0), AV.sc true (Value.int IntKind.i64 7),
                                              AV.sc true (Value.int IntKind.i64 9), AV.sc true (Value.int IntKind.i64 1492),
                                              AV.sc true (Value.int IntKind.i64 0), AV.sc true (Value.int IntKind.i64 10)],
                                          AV.sl true [Sh.int IntKind.i64, Sh.int IntKind.i64, Sh.sl [Sh.int IntKind.u8]]
                                            (D.app (D.l []) (D.l [])) none,
                                          AV.sl true [Sh.int IntKind.i64] (D.app (D.l []) (D.l [D.t [D.ki 12]])) none])))
                                  (RT.br (rej7E c i d 2 == 0)
                                    (RT.ok
                                      (AV.tup
                                        [AV.agg
                                            [AV.sc true (Value.int IntKind.i64 9), AV.sc true (Value.int IntKind.i64 2),
                                              AV.sc true (Value.int IntKind.i64 1),
                                              AV.sl true [Sh.int IntKind.i64, Sh.sl [Sh.int IntKind.u8]]
                                                (D.kl
                                                  [D.t [D.ki 1, D.kl [D.ki 5, D.ki 212]],
                                                    D.t [D.ki 5, D.kl [D.ki 0, D.ki 0, D.ki 0, D.ki 7]]])
                                                none,
                                              AV.sc true (Value.int IntKind.i64 10), AV.sc true (Value.int IntKind.i64 0),
                                              AV.sc true (Value.int IntKind.i64 0), AV.sc true (Value.int IntKind.i64 7),
                                              AV.sc true (Value.int IntKind.i64 9), AV.sc true (Value.int IntKind.i64 1492),
                                              AV.sc true (Value.int IntKind.i64 0), AV.sc true (Value.int IntKind.i64 10)],
                                          AV.sl true [Sh.int IntKind.i64, Sh.int IntKind.i64, Sh.sl [Sh.int IntKind.u8]]
                                            (D.app (D.l [])
                                              (D.app (D.l [])
                                                (D.l
                                                  [D.t
                                                      [D.i (rej7C (rej7E c i d 2) 7), D.i (rej7C (rej7E c i d 2) 2),
                                                        rej7D c i d 2]])))
                                            none,
                                          AV.sl true [Sh.int IntKind.i64] (D.app (D.l []) (D.l [D.t [D.ki 12]])) none]))
                                    (RT.ok
                                      (AV.tup
                                        [AV.agg
                                            [AV.sc true (Value.int IntKind.i64 9), AV.sc true (Value.int IntKind.i64 2),
                                              AV.sc true (Value.int IntKind.i64 1),
                                              AV.sl true [Sh.int IntKind.i64, Sh.sl [Sh.int IntKind.u8]]
                                                (D.kl
                                                  [D.t [D.ki 1, D.kl [D.ki 5, D.ki 212]],
                                                    D.t [D.ki 5, D.kl [D.ki 0, D.ki 0, D.ki 0, D.ki 7]]])
                                                none,
                                              AV.sc true (Value.int IntKind.i64 10), AV.sc true (Value.int IntKind.i64 0),
                                              AV.sc true (Value.int IntKind.i64 0), AV.sc true (Value.int IntKind.i64 7),
                                              AV.sc true (Value.int IntKind.i64 9), AV.sc true (Value.int IntKind.i64 1492),
                                              AV.sc true (Value.int IntKind.i64 0), AV.sc true (Value.int IntKind.i64 10)],
                                          AV.sl true [Sh.int IntKind.i64, Sh.int IntKind.i64, Sh.sl [Sh.int IntKind.u8]]
                                            (D.app (D.l []) (D.l [])) none,
                                          AV.sl true [Sh.int IntKind.i64] (D.app (D.l []) (D.l [D.t [D.ki 12]]))
                                            none]))))))))))))))))) := by rw [← fvF_eq Tryz.prog (gam (cutG Tryz.prog)) (lam (cutL)) false 100 31]; kernel_rfl
theorem rjt_tree (p : Int) (d : D) : treeR (evF Tryz.prog (gam (cutG Tryz.prog)) (lam (cutL)) 100 33) [cfK, tg oA4R 0, .agg [ai p, asl byS d]] =
    RT.all
      (RT.all
        (RT.br (pro7E p d 2 != 0)
          (RT.ok
            (AV.tup
              [AV.agg
                  [AV.sc true (Value.int IntKind.i64 9), AV.sc true (Value.int IntKind.i64 1),
                    AV.sc true (Value.int IntKind.i64 1),
                    AV.sl true [Sh.int IntKind.i64, Sh.sl [Sh.int IntKind.u8]]
                      (D.kl [D.t [D.ki 1, D.kl [D.ki 5, D.ki 212]], D.t [D.ki 5, D.kl [D.ki 0, D.ki 0, D.ki 0, D.ki 7]]])
                      none,
                    AV.sc true (Value.int IntKind.i64 10), AV.sc true (Value.int IntKind.i64 0),
                    AV.sc true (Value.int IntKind.i64 0), AV.sc true (Value.int IntKind.i64 7),
                    AV.sc true (Value.int IntKind.i64 9), AV.sc true (Value.int IntKind.i64 1492),
                    AV.sc true (Value.int IntKind.i64 0), AV.sc true (Value.int IntKind.i64 10)],
                AV.sc true (Value.slice none 0 0)]))
          (RT.ok
            (AV.tup
              [AV.agg
                  [AV.sc true (Value.int IntKind.i64 9), AV.sc true (Value.int IntKind.i64 2),
                    AV.sc true (Value.int IntKind.i64 1),
                    AV.sl true [Sh.int IntKind.i64, Sh.sl [Sh.int IntKind.u8]]
                      (D.kl [D.t [D.ki 1, D.kl [D.ki 5, D.ki 212]], D.t [D.ki 5, D.kl [D.ki 0, D.ki 0, D.ki 0, D.ki 7]]])
                      none,
                    AV.sc true (Value.int IntKind.i64 10), AV.sc true (Value.int IntKind.i64 0),
                    AV.sc true (Value.int IntKind.i64 0), AV.sc true (Value.int IntKind.i64 7),
                    AV.sc true (Value.int IntKind.i64 9), AV.sc true (Value.int IntKind.i64 1492),
                    AV.sc true (Value.int IntKind.i64 0), AV.sc true (Value.int IntKind.i64 10)],
                AV.sl true [Sh.int IntKind.i64, Sh.int IntKind.i64, Sh.sl [Sh.int IntKind.u8]]
                  (D.app (D.l []) (D.l [D.t [D.i (rej7C (pro7E p d 2) 8), D.i (rej7C (pro7E p d 2) 2), pro7D p d 2]]))
                  none])))
        (RT.br (pro7E p d 2 != 0)
          (RT.ok
            (AV.tup
              [AV.agg
                  [AV.sc true (Value.int IntKind.i64 9), AV.sc true (Value.int IntKind.i64 1),
                    AV.sc true (Value.int IntKind.i64 1),
                    AV.sl true [Sh.int IntKind.i64, Sh.sl [Sh.int IntKind.u8]]
                      (D.kl [D.t [D.ki 1, D.kl [D.ki 5, D.ki 212]], D.t [D.ki 5, D.kl [D.ki 0, D.ki 0, D.ki 0, D.ki 7]]])
                      none,
                    AV.sc true (Value.int IntKind.i64 10), AV.sc true (Value.int IntKind.i64 0),
                    AV.sc true (Value.int IntKind.i64 0), AV.sc true (Value.int IntKind.i64 7),
                    AV.sc true (Value.int IntKind.i64 9), AV.sc true (Value.int IntKind.i64 1492),
                    AV.sc true (Value.int IntKind.i64 0), AV.sc true (Value.int IntKind.i64 10)],
                AV.sc true (Value.slice none 0 0)]))
          (RT.ok
            (AV.tup
              [AV.agg
                  [AV.sc true (Value.int IntKind.i64 9), AV.sc true (Value.int IntKind.i64 2),
                    AV.sc true (Value.int IntKind.i64 1),
                    AV.sl true [Sh.int IntKind.i64, Sh.sl [Sh.int IntKind.u8]]
                      (D.kl [D.t [D.ki 1, D.kl [D.ki 5, D.ki 212]], D.t [D.ki 5, D.kl [D.ki 0, D.ki 0, D.ki 0, D.ki 7]]])
                      none,
                    AV.sc true (Value.int IntKind.i64 10), AV.sc true (Value.int IntKind.i64 0),
                    AV.sc true (Value.int IntKind.i64 0), AV.sc true (Value.int IntKind.i64 7),
                    AV.sc true (Value.int IntKind.i64 9), AV.sc true (Value.int IntKind.i64 1492),
                    AV.sc true (Value.int IntKind.i64 0), AV.sc true (Value.int IntKind.i64 10)],
                AV.sl true [Sh.int IntKind.i64, Sh.int IntKind.i64, Sh.sl [Sh.int IntKind.u8]]
                  (D.app (D.l []) (D.l [D.t [D.i (rej7C (pro7E p d 2) 8), D.i (rej7C (pro7E p d 2) 2), pro7D p d 2]]))
                  none]))))
      (RT.br (pro7E p d 2 != 0)
        (RT.ok
          (AV.tup
            [AV.agg
                [AV.sc true (Value.int IntKind.i64 9), AV.sc true (Value.int IntKind.i64 1),
                  AV.sc true (Value.int IntKind.i64 1),
                  AV.sl true [Sh.int IntKind.i64, Sh.sl [Sh.int IntKind.u8]]
                    (D.kl [D.t [D.ki 1, D.kl [D.ki 5, D.ki 212]], D.t [D.ki 5, D.kl [D.ki 0, D.ki 0, D.ki 0, D.ki 7]]])
                    none,
                  AV.sc true (Value.int IntKind.i64 10), AV.sc true (Value.int IntKind.i64 0),
                  AV.sc true (Value.int IntKind.i64 0), AV.sc true (Value.int IntKind.i64 7),
                  AV.sc true (Value.int IntKind.i64 9), AV.sc true (Value.int IntKind.i64 1492),
                  AV.sc true (Value.int IntKind.i64 0), AV.sc true (Value.int IntKind.i64 10)],
              AV.sc true (Value.slice none 0 0)]))
        (RT.ok
          (AV.tup
            [AV.agg
                [AV.sc true (Value.int IntKind.i64 9), AV.sc true (Value.int IntKind.i64 2),
                  AV.sc true (Value.int IntKind.i64 1),
                  AV.sl true [Sh.int IntKind.i64, Sh.sl [Sh.int IntKind.u8]]
                    (D.kl [D.t [D.ki 1, D.kl [D.ki 5, D.ki 212]], D.t [D.ki 5, D.kl [D.ki 0, D.ki 0, D.ki 0, D.ki 7]]])
                    none,
                  AV.sc true (Value.int IntKind.i64 10), AV.sc true (Value.int IntKind.i64 0),
                  AV.sc true (Value.int IntKind.i64 0), AV.sc true (Value.int IntKind.i64 7),
                  AV.sc true (Value.int IntKind.i64 9), AV.sc true (Value.int IntKind.i64 1492),
                  AV.sc true (Value.int IntKind.i64 0), AV.sc true (Value.int IntKind.i64 10)],
              AV.sl true [Sh.int IntKind.i64, Sh.int IntKind.i64, Sh.sl [Sh.int IntKind.u8]]
                (D.app (D.l []) (D.l [D.t [D.i (rej7C (pro7E p d 2) 8), D.i (rej7C (pro7E p d 2) 2), pro7D p d 2]]))
                none]))) := by rw [← fvF_eq Tryz.prog (gam (cutG Tryz.prog)) (lam (cutL)) false 100 33]; kernel_rfl
end
end Go.Proofs.YtcambhbmobepjaaGreat
