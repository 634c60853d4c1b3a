/- List and Idle of anything, the program's and the document's. No condition. -/
import Derived.Test.YtkifagflnpkkaaaRefG
namespace Go.Proofs.Ytkifagflnpkkaaa
set_option linter.unusedSimpArgs false
set_option linter.unusedVariables false
-- FSX: ec, iv, facts_tobj, macs
open Go.RowKit
set_option maxRecDepth 10000

def listR (n : Nat) (L : List EntL) (s : Int) : List EntL × Int := if 0 ≤ s ∧ s < n then (ofShard n s.toNat L, 0) else ([], 5)
def idleR (n : Nat) (L : List EntL) (s t u : Int) : List Int × Int :=
  if 0 ≤ s ∧ s < n then (if (0 ≤ t ∧ t ≤ 1099511627776) ∧ 0 ≤ u ∧ u ≤ 1099511627776 then (idles (ofShard n s.toNat L) t u, 0) else ([], 1)) else ([], 5)
theorem iv_flat (l : List Int) : l.map iv = (l.map fun n => [Value.int .i64 n]).flatten := (ints_flat l).symm

theorem list_all (z : Nat → Prop) (T n : Nat) (L : List EntL) (A : Nat → Prop) (s : Int) (w : World) (h : Tab w T n L A) :
    Calls Try.prog 11 #[.pointer (some ⟨T, 0, none⟩), .int .i64 s] w fun e w' => ∃ v, e = .returned (.tuple #[v, .int .i64 (listR n L s).2]) ∧ Below w.heap.size w w' ∧ SlZ rEnt (Fresh z w w') w' v (listR n L s).1 := by
  unfold listR
  by_cases hs : 0 ≤ s ∧ s < n
  · obtain ⟨m, rfl⟩ : ∃ m : Nat, s = m := ⟨s.toNat, by omega⟩
    rw [if_pos hs]
    exact (list_any T n L A m (by omega) w h).mono fun e w' ⟨v, h1, h2, h3⟩ => ⟨v, h1, h2, own_slz h3 ec_len (by decide) rfl⟩
  · rw [if_neg hs]
    exact (list_bad T n L A s hs w h).mono fun e w' ⟨h1, h2⟩ => ⟨_, h1, h2 ▸ Below.refl _ _, SlZ.nil _ _ _⟩
set_option maxHeartbeats 4000000 in
theorem idle_all (z : Nat → Prop) (T n : Nat) (L : List EntL) (A : Nat → Prop) (s t u : Int) (w : World) (h : Tab w T n L A) :
    Calls Try.prog 18 #[.pointer (some ⟨T, 0, none⟩), .int .i64 s, .int .i64 t, .int .i64 u] w fun e w' => ∃ v, e = .returned (.tuple #[v, .int .i64 (idleR n L s t u).2]) ∧ Below w.heap.size w w' ∧ SlZ (rInt .i64) (Fresh z w w') w' v (idleR n L s t u).1 := by
  unfold idleR
  by_cases hs : 0 ≤ s ∧ s < n
  · obtain ⟨m, rfl⟩ : ∃ m : Nat, s = m := ⟨s.toNat, by omega⟩
    rw [if_pos hs]
    by_cases htu : (0 ≤ t ∧ t ≤ 1099511627776) ∧ 0 ≤ u ∧ u ≤ 1099511627776
    · rw [if_pos htu]
      exact (idle_any T n L A m (by omega) t u htu.1 htu.2 w h).mono fun e w' ⟨v, h1, h2, h3⟩ => ⟨v, h1, h2, own_slz (by rw [iv_flat] at h3; exact h3) (fun _ => rfl) (by decide) rfl⟩
    · rw [if_neg htu]
      have HL := Lib.hid (list_any T n L A m (by omega) w h)
      have hc : decide (0 ≤ t ∧ t ≤ 1099511627776) = false ∨ decide (0 ≤ t ∧ t ≤ 1099511627776) = true ∧ decide (0 ≤ u ∧ u ≤ 1099511627776) = false := by
        simp only [decide_eq_false_iff_not, decide_eq_true_eq]; omega
      clear htu hs h
      rcases hc with hc | ⟨hc, hd⟩
      · have Hc := Lib.hid hc
        clear hc
        go_enter Try.func18, Try.ntmps18
        go_wp2_with (first
          | (go_at_call 11; refine HL.out.mono ?_; rintro e w5 ⟨v, rfl, hb, -⟩; have HB := Lib.hid hb; clear hb)
          | (go_at_call 36; refine (timed_any _ _).mono ?_; rintro e w5 ⟨rfl, rfl⟩; rw [Hc.out]))
        go_ret2
        exact ⟨_, rfl, HB.out, SlZ.nil _ _ _⟩
      · have Hc := Lib.hid hc
        have Hd := Lib.hid hd
        clear hc hd
        go_enter Try.func18, Try.ntmps18
        go_wp2_with (first
          | (go_at_call 11; refine HL.out.mono ?_; rintro e w5 ⟨v, rfl, hb, -⟩; have HB := Lib.hid hb; clear hb)
          | (go_at_call 36; refine (timed_any t _).mono ?_; rintro e w5 ⟨rfl, rfl⟩; rw [Hc.out])
          | (go_at_call 36; refine (timed_any u _).mono ?_; rintro e w5 ⟨rfl, rfl⟩; rw [Hd.out]))
        go_ret2
        exact ⟨_, rfl, HB.out, SlZ.nil _ _ _⟩
  · rw [if_neg hs]
    have HL := Lib.hid (list_bad T n L A s hs w h)
    clear hs h
    go_enter Try.func18, Try.ntmps18
    go_wp2_with (first
      | (go_at_call 11; refine HL.out.mono ?_; rintro e w5 ⟨rfl, rfl⟩))
    go_ret2
    exact ⟨_, rfl, Below.refl _ _, SlZ.nil _ _ _⟩
theorem rlist_all (z : Nat → Prop) (n : Nat) (v : Value) (L : List EntL) (s : Int) (hn : n ≤ 64) (w : World) (hv : SlZ rEnt z w v L) (hL : L.length ≤ 100000) (hG : ∀ e ∈ L, 1 ≤ e.id ∧ e.id ≤ 65534) :
    Calls Try.prog 38 #[.agg #[.int .i64 n, v], .int .i64 s] w fun e w' => ∃ v', e = .returned (.tuple #[v', .int .i64 (listR n L s).2]) ∧ Below w.heap.size w w' ∧ SlZ rEnt (Fresh z w w') w' v' (listR n L s).1 := by
  unfold listR
  by_cases hs : 0 ≤ s ∧ s < n
  · obtain ⟨m, rfl⟩ : ∃ m : Nat, s = m := ⟨s.toNat, by omega⟩
    rw [if_pos hs]
    exact rlist_any z n v L m (by omega) hn w hv hL hG
  · rw [if_neg hs]
    have H := Lib.hid (St.start w z [] (by simp))
    have hs' : s < 0 ∨ ¬ s < 0 ∧ (n : Int) ≤ s := by omega
    clear hv hG hs
    rcases hs' with hs | ⟨hs, hs2⟩
    all_goals
      go_enter Try.func38, Try.ntmps38
      go_wp2_with (first
        | (show wpList _ _ _ _ _ (World.drewN _ _); refine wl_drewN H.out ?_; intro w4 H1 hle4; (try clear F); clear H; have H := Lib.hid H1; have F := H1.facts; simp only [fxx, ec, iv, facts_tobj, macs] at F; clear H1)
        | (show Code.wp _ _ _ _ (World.drewN _ _); refine cw_drewN H.out ?_; intro w4 H1 hle4; (try clear F); clear H; have H := Lib.hid H1; have F := H1.facts; simp only [fxx, ec, iv, facts_tobj, macs] at F; clear H1)
        | (show wpList _ _ _ _ _ (World.alloc _ _); refine wl_absorb H.out ?_; intro w1 H1 hlt1; (try clear F); clear H; have H := Lib.hid H1; have F := H1.facts; simp only [fxx, ec, iv, facts_tobj, macs] at F; clear H1)
        | (show Code.wp _ _ _ _ (World.alloc _ _); refine cw_absorb H.out ?_; intro w2 H1 hlt2; (try clear F); clear H; have H := Lib.hid H1; have F := H1.facts; simp only [fxx, ec, iv, facts_tobj, macs] at F; clear H1)
        | (show wpList _ _ _ (Oper.mk none (Op.store _ _ _) _ _ _ _ :: _) _ _; (first | refine wl_store H.out 0 rfl rfl rfl (by rfl) (by simp [Act.eval, Value.cells]; rfl) (by kernel_rfl) (by simp) (by simp [Value.oneCell']) ?_ | refine wl_store H.out 1 rfl rfl rfl (by rfl) (by simp [Act.eval, Value.cells]; rfl) (by kernel_rfl) (by simp) (by simp [Value.oneCell']) ?_); intro w3 H1 hle3; (try show wpList _ _ _ _ ⟨_, _⟩ _); simp only [px] at H1; (try clear F); clear H; have H := Lib.hid H1; have F := H1.facts; simp only [fxx, ec, iv, facts_tobj, macs] at F; clear H1))
      go_ret2
      exact ⟨_, rfl, H.out.below', SlZ.nil _ _ _⟩
set_option maxHeartbeats 4000000 in
theorem ridle_all (z : Nat → Prop) (n : Nat) (v : Value) (L : List EntL) (s t u : Int) (hn : n ≤ 64) (w : World) (hv : SlZ rEnt z w v L) (hG : Good L) :
    Calls Try.prog 47 #[.agg #[.int .i64 n, v], .int .i64 s, .int .i64 t, .int .i64 u] w fun e w' => ∃ v', e = .returned (.tuple #[v', .int .i64 (idleR n L s t u).2]) ∧ Below w.heap.size w w' ∧ SlZ (rInt .i64) (Fresh z w w') w' v' (idleR n L s t u).1 := by
  have hL : L.length ≤ 100000 := by have := hG.len; omega
  by_cases hc : (0 ≤ s ∧ s < n) ∧ (0 ≤ t ∧ t ≤ 1099511627776) ∧ 0 ≤ u ∧ u ≤ 1099511627776
  · unfold idleR
    obtain ⟨m, rfl⟩ : ∃ m : Nat, s = m := ⟨s.toNat, by omega⟩
    rw [if_pos hc.1, if_pos hc.2]
    exact ridle_any z n v L m (by omega) hn t u hc.2.1 hc.2.2 w hv hL hG
  · have HC := Lib.hid (fun z v w hv => rlist_all z n v L s hn w hv hL fun e he => ⟨(hG.range e he).1, (hG.range e he).2.1⟩)
    obtain ⟨ad, cap, rfl, -, -⟩ := hv.shape
    have H := Lib.hid (St.start w z [rdS rEnt _ L] (by simp only [List.mem_singleton, forall_eq]; exact hv))
    clear hv hG
    by_cases hs : 0 ≤ s ∧ s < n
    · unfold idleR
      unfold listR at HC
      rw [if_pos hs, if_neg (fun h => hc ⟨hs, h⟩)]
      rw [if_pos hs] at HC
      have hd : t < 0 ∨ ¬ t < 0 ∧ 1099511627776 < t ∨ ¬ t < 0 ∧ ¬ 1099511627776 < t ∧ u < 0 ∨ ¬ t < 0 ∧ ¬ 1099511627776 < t ∧ ¬ u < 0 ∧ 1099511627776 < u := by omega
      clear hc hs
      rcases hd with hd | ⟨hd, hd1⟩ | ⟨hd, hd1, hd2⟩ | ⟨hd, hd1, hd2, hd3⟩
      all_goals
        go_enter Try.func47, Try.ntmps47
        go_wp2_with (first
          | (show wpList _ _ _ _ _ (World.drewN _ _); refine wl_drewN H.out ?_; intro w4 H1 hle4; (try clear F); clear H; have H := Lib.hid H1; have F := H1.facts; simp only [fxx, ec, iv, facts_tobj, macs] at F; clear H1)
          | (show Code.wp _ _ _ _ (World.drewN _ _); refine cw_drewN H.out ?_; intro w4 H1 hle4; (try clear F); clear H; have H := Lib.hid H1; have F := H1.facts; simp only [fxx, ec, iv, facts_tobj, macs] at F; clear H1)
          | (show wpList _ _ _ _ _ (World.alloc _ _); refine wl_absorb H.out ?_; intro w1 H1 hlt1; (try clear F); clear H; have H := Lib.hid H1; have F := H1.facts; simp only [fxx, ec, iv, facts_tobj, macs] at F; clear H1)
          | (show Code.wp _ _ _ _ (World.alloc _ _); refine cw_absorb H.out ?_; intro w2 H1 hlt2; (try clear F); clear H; have H := Lib.hid H1; have F := H1.facts; simp only [fxx, ec, iv, facts_tobj, macs] at F; clear H1)
          | (show wpList _ _ _ (Oper.mk none (Op.store _ _ _) _ _ _ _ :: _) _ _; (first | refine wl_store H.out 0 rfl rfl rfl (by rfl) (by simp [Act.eval, Value.cells]; rfl) (by kernel_rfl) (by simp) (by simp [Value.oneCell']) ?_ | refine wl_store H.out 1 rfl rfl rfl (by rfl) (by simp [Act.eval, Value.cells]; rfl) (by kernel_rfl) (by simp) (by simp [Value.oneCell']) ?_); intro w3 H1 hle3; (try show wpList _ _ _ _ ⟨_, _⟩ _); simp only [px] at H1; (try clear F); clear H; have H := Lib.hid H1; have F := H1.facts; simp only [fxx, ec, iv, facts_tobj, macs] at F; clear H1)
          | (go_at_call 38; refine (HC.out _ _ _ (H.out.rd 0 rfl)).mono ?_; rintro e w5 ⟨v', rfl, hb, -⟩; have H1 := H.out.same hb; clear hb; (try clear F); clear H; have H := Lib.hid H1; have F := H1.facts; simp only [fxx, ec, iv, facts_tobj, macs] at F; clear H1))
        go_ret2
        exact ⟨_, rfl, H.out.below', SlZ.nil _ _ _⟩
    · unfold idleR
      unfold listR at HC
      rw [if_neg hs]
      rw [if_neg hs] at HC
      clear hc hs
      go_enter Try.func47, Try.ntmps47
      go_wp2_with (first
        | (show wpList _ _ _ _ _ (World.drewN _ _); refine wl_drewN H.out ?_; intro w4 H1 hle4; (try clear F); clear H; have H := Lib.hid H1; have F := H1.facts; simp only [fxx, ec, iv, facts_tobj, macs] at F; clear H1)
        | (show Code.wp _ _ _ _ (World.drewN _ _); refine cw_drewN H.out ?_; intro w4 H1 hle4; (try clear F); clear H; have H := Lib.hid H1; have F := H1.facts; simp only [fxx, ec, iv, facts_tobj, macs] at F; clear H1)
        | (show wpList _ _ _ _ _ (World.alloc _ _); refine wl_absorb H.out ?_; intro w1 H1 hlt1; (try clear F); clear H; have H := Lib.hid H1; have F := H1.facts; simp only [fxx, ec, iv, facts_tobj, macs] at F; clear H1)
        | (show Code.wp _ _ _ _ (World.alloc _ _); refine cw_absorb H.out ?_; intro w2 H1 hlt2; (try clear F); clear H; have H := Lib.hid H1; have F := H1.facts; simp only [fxx, ec, iv, facts_tobj, macs] at F; clear H1)
        | (show wpList _ _ _ (Oper.mk none (Op.store _ _ _) _ _ _ _ :: _) _ _; (first | refine wl_store H.out 0 rfl rfl rfl (by rfl) (by simp [Act.eval, Value.cells]; rfl) (by kernel_rfl) (by simp) (by simp [Value.oneCell']) ?_ | refine wl_store H.out 1 rfl rfl rfl (by rfl) (by simp [Act.eval, Value.cells]; rfl) (by kernel_rfl) (by simp) (by simp [Value.oneCell']) ?_); intro w3 H1 hle3; (try show wpList _ _ _ _ ⟨_, _⟩ _); simp only [px] at H1; (try clear F); clear H; have H := Lib.hid H1; have F := H1.facts; simp only [fxx, ec, iv, facts_tobj, macs] at F; clear H1)
        | (go_at_call 38; refine (HC.out _ _ _ (H.out.rd 0 rfl)).mono ?_; rintro e w5 ⟨v', rfl, hb, -⟩; have H1 := H.out.same hb; clear hb; (try clear F); clear H; have H := Lib.hid H1; have F := H1.facts; simp only [fxx, ec, iv, facts_tobj, macs] at F; clear H1))
      go_ret2
      exact ⟨_, rfl, H.out.below', SlZ.nil _ _ _⟩
end Go.Proofs.Ytkifagflnpkkaaa
