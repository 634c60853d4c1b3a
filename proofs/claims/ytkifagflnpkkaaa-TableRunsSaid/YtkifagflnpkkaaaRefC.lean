/- The reference's Put, New; the table as something owned. No condition. -/
import Derived.Test.YtkifagflnpkkaaaRefB
namespace Go.Proofs.Ytkifagflnpkkaaa
set_option linter.unusedSimpArgs false
set_option linter.unusedVariables false
-- FSX: ec
open Go.RowKit
set_option maxRecDepth 10000

theorem number_any (k : Int) (w : World) : Calls Try.prog 49 #[.int .i64 k] w fun e w' => e = .returned (.bool (decide (1 ≤ k ∧ k ≤ 65534))) ∧ w' = w := by
  go_enter Try.func49, Try.ntmps49
  go_wp2
  all_goals go_ret
  all_goals refine ⟨?_, rfl⟩
  all_goals congr 2
  all_goals simp
  all_goals omega
theorem rnew_bad (k : Int) (hk : ¬ (1 ≤ k ∧ k ≤ 64)) (w : World) : Calls Try.prog 24 #[.int .i64 k] w fun e w' => e = .returned (.tuple #[.agg #[.int .i64 0, .slice none 0 0], .int .i64 200]) ∧ Below w.heap.size w w' := by
  have H := Lib.hid (St.start w (fun _ => False) [] (by simp))
  go_enter Try.func24, Try.ntmps24
  go_wp2_with (first
    | (show wpList _ _ _ _ _ (World.drewN _ _); refine wl_drewN H.out ?_; intro w4 H1 hle4; (try clear F); clear H; have H := Lib.hid H1; have F := H1.facts; simp only [fxx, ec] at F; clear H1)
    | (show Code.wp _ _ _ _ (World.drewN _ _); refine cw_drewN H.out ?_; intro w4 H1 hle4; (try clear F); clear H; have H := Lib.hid H1; have F := H1.facts; simp only [fxx, ec] at F; clear H1)
    | (show wpList _ _ _ _ _ (World.alloc _ _); refine wl_absorb H.out ?_; intro w1 H1 hlt1; (try clear F); clear H; have H := Lib.hid H1; have F := H1.facts; simp only [fxx, ec] at F; clear H1)
    | (show Code.wp _ _ _ _ (World.alloc _ _); refine cw_absorb H.out ?_; intro w2 H1 hlt2; (try clear F); clear H; have H := Lib.hid H1; have F := H1.facts; simp only [fxx, ec] at F; clear H1)
    | (show wpList _ _ _ (Oper.mk none (Op.store _ _ _) _ _ _ _ :: _) _ _; (first | refine wl_store H.out 0 rfl rfl rfl (by rfl) (by simp [Act.eval, Value.cells]; rfl) (by kernel_rfl) (by simp) (by simp [Value.oneCell']) ?_ | refine wl_store H.out 1 rfl rfl rfl (by rfl) (by simp [Act.eval, Value.cells]; rfl) (by kernel_rfl) (by simp) (by simp [Value.oneCell']) ?_); intro w3 H1 hle3; simp only [px] at H1; (try clear F); clear H; have H := Lib.hid H1; have F := H1.facts; simp only [fxx, ec] at F; clear H1))
  all_goals first | (exfalso; omega) | skip
  all_goals exact bodyPost_ret (ret_ct rfl rfl rfl (H.out.has 0 rfl) row_28 rfl) rfl ⟨rfl, H.out.below'⟩
theorem rnew_yes (n : Nat) (h1 : 1 ≤ n) (h2 : n ≤ 64) (w : World) : Calls Try.prog 24 #[.int .i64 n] w fun e w' => e = .returned (.tuple #[.agg #[.int .i64 n, .slice none 0 0], .int .i64 0]) ∧ Below w.heap.size w w' := by
  have H := Lib.hid (St.start w (fun _ => False) [] (by simp))
  go_enter Try.func24, Try.ntmps24
  go_wp2_with (first
    | (show wpList _ _ _ _ _ (World.drewN _ _); refine wl_drewN H.out ?_; intro w4 H1 hle4; (try clear F); clear H; have H := Lib.hid H1; have F := H1.facts; simp only [fxx, ec] at F; clear H1)
    | (show Code.wp _ _ _ _ (World.drewN _ _); refine cw_drewN H.out ?_; intro w4 H1 hle4; (try clear F); clear H; have H := Lib.hid H1; have F := H1.facts; simp only [fxx, ec] at F; clear H1)
    | (show wpList _ _ _ _ _ (World.alloc _ _); refine wl_absorb H.out ?_; intro w1 H1 hlt1; (try clear F); clear H; have H := Lib.hid H1; have F := H1.facts; simp only [fxx, ec] at F; clear H1)
    | (show Code.wp _ _ _ _ (World.alloc _ _); refine cw_absorb H.out ?_; intro w2 H1 hlt2; (try clear F); clear H; have H := Lib.hid H1; have F := H1.facts; simp only [fxx, ec] at F; clear H1)
    | (show wpList _ _ _ (Oper.mk none (Op.store _ _ _) _ _ _ _ :: _) _ _; (first | refine wl_store H.out 0 rfl rfl rfl (by rfl) (by simp [Act.eval, Value.cells]; rfl) (by kernel_rfl) (by simp) (by simp [Value.oneCell']) ?_ | refine wl_store H.out 1 rfl rfl rfl (by rfl) (by simp [Act.eval, Value.cells]; rfl) (by kernel_rfl) (by simp) (by simp [Value.oneCell']) ?_); intro w3 H1 hle3; simp only [px] at H1; (try clear F); clear H; have H := Lib.hid H1; have F := H1.facts; simp only [fxx, ec] at F; clear H1))
  all_goals first | (exfalso; omega) | skip
  all_goals exact bodyPost_ret (ret_ct rfl rfl rfl (H.out.has 0 rfl) row_28 rfl) rfl ⟨rfl, H.out.below'⟩

def okE (x : EntL) : Bool := decide (1 ≤ x.id ∧ x.id ≤ 65534 ∧ 0 ≤ x.seen ∧ x.seen ≤ 1099511627776)
theorem okE_iff {x : EntL} : okE x = true ↔ 1 ≤ x.id ∧ x.id ≤ 65534 ∧ 0 ≤ x.seen ∧ x.seen ≤ 1099511627776 := by simp [okE]
/-- the document's Put -/
def putR (L : List EntL) (x : EntL) : List EntL × Int := if okE x then (if (getE L x.id).2 then (L, 201) else (withE L x, 0)) else (L, 200)

set_option maxHeartbeats 4000000 in
theorem rput_any (z : Nat → Prop) (n : Int) (v : Value) (L : List EntL) (y : EntL) (w : World) (hv : SlZ rEnt z w v L) (hL : L.length ≤ 100000) :
    Calls Try.prog 29 #[.agg #[.int .i64 n, v], .agg (ec y).toArray] w fun e w' => ∃ v', e = .returned (.tuple #[.agg #[.int .i64 n, v'], .int .i64 (putR L y).2]) ∧ Below w.heap.size w w' ∧ SlZ rEnt (Fresh z w w') w' v' (putR L y).1 := by
  obtain ⟨ad, cap, rfl, hlc, hcm⟩ := hv.shape
  unfold maxLen at hcm
  have H := Lib.hid (St.start w z [rdS rEnt _ L] (by simp only [List.mem_singleton, forall_eq]; exact hv))
  clear hv
  by_cases hok : okE y = true
  · have HP : Hid (putR L y = if (getE L y.id).2 then (L, 201) else (withE L y, 0)) := by unfold Hid putR; rw [if_pos hok]
    have ho := okE_iff.1 hok
    have Hk : Hid (decide (1 ≤ y.id ∧ y.id ≤ 65534) = true) := by unfold Hid; simp [ho]
    obtain ⟨-, -, ho3, ho4⟩ := ho
    clear hok
    obtain ⟨X, hX⟩ : ∃ X, X = (getE L y.id).1 := ⟨_, rfl⟩
    obtain ⟨b, hb⟩ : ∃ b, b = (getE L y.id).2 := ⟨_, rfl⟩
    have HX := Lib.hid hX.symm
    have Hb := Lib.hid hb.symm
    rw [Hb.out] at HP
    clear hX hb
    go_enter Try.func29, Try.ntmps29
    simp only [ec]
    cases b
    · go_wp2_with (first
        | (show wpList _ _ _ _ _ (World.drewN _ _); refine wl_drewN H.out ?_; intro w4 H1 hle4; (try clear F); clear H; have H := Lib.hid H1; have F := H1.facts; simp only [fxx, ec] at F; clear H1)
        | (show Code.wp _ _ _ _ (World.drewN _ _); refine cw_drewN H.out ?_; intro w4 H1 hle4; (try clear F); clear H; have H := Lib.hid H1; have F := H1.facts; simp only [fxx, ec] at F; clear H1)
        | (show wpList _ _ _ _ _ (World.alloc _ _); refine wl_absorb H.out ?_; intro w1 H1 hlt1; (try clear F); clear H; have H := Lib.hid H1; have F := H1.facts; simp only [fxx, ec] at F; clear H1)
        | (show Code.wp _ _ _ _ (World.alloc _ _); refine cw_absorb H.out ?_; intro w2 H1 hlt2; (try clear F); clear H; have H := Lib.hid H1; have F := H1.facts; simp only [fxx, ec] at F; clear H1)
        | (show wpList _ _ _ (Oper.mk none (Op.store _ _ _) _ _ _ _ :: _) _ _; (first | refine wl_store H.out 0 rfl rfl rfl (by rfl) (by simp [Act.eval, Value.cells]; rfl) (by kernel_rfl) (by simp) (by simp [Value.oneCell']) ?_ | refine wl_store H.out 1 rfl rfl rfl (by rfl) (by simp [Act.eval, Value.cells]; rfl) (by kernel_rfl) (by simp) (by simp [Value.oneCell']) ?_ | refine wl_store H.out 2 rfl rfl rfl (by rfl) (by simp [Act.eval, Value.cells]; rfl) (by kernel_rfl) (by simp) (by simp [Value.oneCell']) ?_ | refine wl_store H.out 3 rfl rfl rfl (by rfl) (by simp [Act.eval, Value.cells]; rfl) (by kernel_rfl) (by simp) (by simp [Value.oneCell']) ?_ | refine wl_store H.out 4 rfl rfl rfl (by rfl) (by simp [Act.eval, Value.cells]; rfl) (by kernel_rfl) (by simp) (by simp [Value.oneCell']) ?_ | refine wl_store H.out 5 rfl rfl rfl (by rfl) (by simp [Act.eval, Value.cells]; rfl) (by kernel_rfl) (by simp) (by simp [Value.oneCell']) ?_); intro w3 H1 hle3; simp only [px] at H1; (try clear F); clear H; have H := Lib.hid H1; have F := H1.facts; simp only [fxx, ec] at F; clear H1)
        | (go_at_call 49; refine (number_any _ _).mono ?_; rintro e w4 ⟨rfl, rfl⟩; rw [Hk.out])
        | (go_at_call 45; refine (rget_any _ _ _ L _ _ (H.out.rd 0 rfl)).mono ?_; rintro e w4 ⟨rfl, hb⟩; rw [HX.out, Hb.out]; have H1 := H.out.same hb; clear hb; simp only [ec]; (try clear F); clear H; have H := Lib.hid H1; have F := H1.facts; simp only [fxx, ec] at F; clear H1)
        | (go_at_call 50; refine (with_any _ _ L y _ (H.out.rd 0 rfl) hL).mono ?_; rintro e w4 ⟨v4, rfl, hb, ho, hn⟩; obtain ⟨ad4, cap4, rfl⟩ := own_shape ho; have H1 := H.out.gets hb (vec 40 8 _ _ _) ho hn; clear hb ho hn; (try clear F); clear H; have H := Lib.hid H1; have F := H1.facts; simp only [fxx, ec] at F; clear H1))
      exact bodyPost_ret (ret_ct rfl rfl rfl (H.out.has 2 rfl) row_28 rfl) rfl ⟨_, by rw [HP.out]; rfl, H.out.below', by rw [HP.out]; exact H.out.end_slz 0 rfl ec_len (by decide) rfl⟩
    · go_wp2_with (first
        | (show wpList _ _ _ _ _ (World.drewN _ _); refine wl_drewN H.out ?_; intro w4 H1 hle4; (try clear F); clear H; have H := Lib.hid H1; have F := H1.facts; simp only [fxx, ec] at F; clear H1)
        | (show Code.wp _ _ _ _ (World.drewN _ _); refine cw_drewN H.out ?_; intro w4 H1 hle4; (try clear F); clear H; have H := Lib.hid H1; have F := H1.facts; simp only [fxx, ec] at F; clear H1)
        | (show wpList _ _ _ _ _ (World.alloc _ _); refine wl_absorb H.out ?_; intro w1 H1 hlt1; (try clear F); clear H; have H := Lib.hid H1; have F := H1.facts; simp only [fxx, ec] at F; clear H1)
        | (show Code.wp _ _ _ _ (World.alloc _ _); refine cw_absorb H.out ?_; intro w2 H1 hlt2; (try clear F); clear H; have H := Lib.hid H1; have F := H1.facts; simp only [fxx, ec] at F; clear H1)
        | (show wpList _ _ _ (Oper.mk none (Op.store _ _ _) _ _ _ _ :: _) _ _; (first | refine wl_store H.out 0 rfl rfl rfl (by rfl) (by simp [Act.eval, Value.cells]; rfl) (by kernel_rfl) (by simp) (by simp [Value.oneCell']) ?_ | refine wl_store H.out 1 rfl rfl rfl (by rfl) (by simp [Act.eval, Value.cells]; rfl) (by kernel_rfl) (by simp) (by simp [Value.oneCell']) ?_ | refine wl_store H.out 2 rfl rfl rfl (by rfl) (by simp [Act.eval, Value.cells]; rfl) (by kernel_rfl) (by simp) (by simp [Value.oneCell']) ?_ | refine wl_store H.out 3 rfl rfl rfl (by rfl) (by simp [Act.eval, Value.cells]; rfl) (by kernel_rfl) (by simp) (by simp [Value.oneCell']) ?_ | refine wl_store H.out 4 rfl rfl rfl (by rfl) (by simp [Act.eval, Value.cells]; rfl) (by kernel_rfl) (by simp) (by simp [Value.oneCell']) ?_ | refine wl_store H.out 5 rfl rfl rfl (by rfl) (by simp [Act.eval, Value.cells]; rfl) (by kernel_rfl) (by simp) (by simp [Value.oneCell']) ?_); intro w3 H1 hle3; simp only [px] at H1; (try clear F); clear H; have H := Lib.hid H1; have F := H1.facts; simp only [fxx, ec] at F; clear H1)
        | (go_at_call 49; refine (number_any _ _).mono ?_; rintro e w4 ⟨rfl, rfl⟩; rw [Hk.out])
        | (go_at_call 45; refine (rget_any _ _ _ L _ _ (H.out.rd 0 rfl)).mono ?_; rintro e w4 ⟨rfl, hb⟩; rw [HX.out, Hb.out]; have H1 := H.out.same hb; clear hb; simp only [ec]; (try clear F); clear H; have H := Lib.hid H1; have F := H1.facts; simp only [fxx, ec] at F; clear H1))
      exact bodyPost_ret (ret_ct rfl rfl rfl (H.out.has 1 rfl) row_28 rfl) rfl ⟨_, by rw [HP.out]; rfl, H.out.below', by rw [HP.out]; exact H.out.end_rd 0 rfl⟩
  · have HP : Hid (putR L y = (L, 200)) := by unfold Hid putR; rw [if_neg hok]
    have ho := mt okE_iff.2 hok
    have hc : decide (1 ≤ y.id ∧ y.id ≤ 65534) = false ∨ decide (1 ≤ y.id ∧ y.id ≤ 65534) = true ∧ y.seen < 0 ∨ decide (1 ≤ y.id ∧ y.id ≤ 65534) = true ∧ ¬ y.seen < 0 ∧ 1099511627776 < y.seen := by
      simp only [decide_eq_false_iff_not, decide_eq_true_eq]; omega
    clear ho hok
    rcases hc with hc | ⟨hc, h2⟩ | ⟨hc, h2, h3⟩
    all_goals
      have Hk := Lib.hid hc
      clear hc
      go_enter Try.func29, Try.ntmps29
      simp only [ec]
      go_wp2_with (first
        | (show wpList _ _ _ _ _ (World.drewN _ _); refine wl_drewN H.out ?_; intro w4 H1 hle4; (try clear F); clear H; have H := Lib.hid H1; have F := H1.facts; simp only [fxx, ec] at F; clear H1)
        | (show Code.wp _ _ _ _ (World.drewN _ _); refine cw_drewN H.out ?_; intro w4 H1 hle4; (try clear F); clear H; have H := Lib.hid H1; have F := H1.facts; simp only [fxx, ec] at F; clear H1)
        | (show wpList _ _ _ _ _ (World.alloc _ _); refine wl_absorb H.out ?_; intro w1 H1 hlt1; (try clear F); clear H; have H := Lib.hid H1; have F := H1.facts; simp only [fxx, ec] at F; clear H1)
        | (show Code.wp _ _ _ _ (World.alloc _ _); refine cw_absorb H.out ?_; intro w2 H1 hlt2; (try clear F); clear H; have H := Lib.hid H1; have F := H1.facts; simp only [fxx, ec] at F; clear H1)
        | (show wpList _ _ _ (Oper.mk none (Op.store _ _ _) _ _ _ _ :: _) _ _; (first | refine wl_store H.out 0 rfl rfl rfl (by rfl) (by simp [Act.eval, Value.cells]; rfl) (by kernel_rfl) (by simp) (by simp [Value.oneCell']) ?_ | refine wl_store H.out 1 rfl rfl rfl (by rfl) (by simp [Act.eval, Value.cells]; rfl) (by kernel_rfl) (by simp) (by simp [Value.oneCell']) ?_ | refine wl_store H.out 2 rfl rfl rfl (by rfl) (by simp [Act.eval, Value.cells]; rfl) (by kernel_rfl) (by simp) (by simp [Value.oneCell']) ?_ | refine wl_store H.out 3 rfl rfl rfl (by rfl) (by simp [Act.eval, Value.cells]; rfl) (by kernel_rfl) (by simp) (by simp [Value.oneCell']) ?_ | refine wl_store H.out 4 rfl rfl rfl (by rfl) (by simp [Act.eval, Value.cells]; rfl) (by kernel_rfl) (by simp) (by simp [Value.oneCell']) ?_ | refine wl_store H.out 5 rfl rfl rfl (by rfl) (by simp [Act.eval, Value.cells]; rfl) (by kernel_rfl) (by simp) (by simp [Value.oneCell']) ?_); intro w3 H1 hle3; simp only [px] at H1; (try clear F); clear H; have H := Lib.hid H1; have F := H1.facts; simp only [fxx, ec] at F; clear H1)
        | (go_at_call 49; refine (number_any _ _).mono ?_; rintro e w4 ⟨rfl, rfl⟩; rw [Hk.out]))
      exact bodyPost_ret (ret_ct rfl rfl rfl (H.out.has 0 rfl) row_28 rfl) rfl ⟨_, by rw [HP.out]; rfl, H.out.below', by rw [HP.out]; exact H.out.end_rd 0 rfl⟩

/-- a table, as something owned -/
def tobj (T n : Nat) (L : List EntL) (A : Nat → Prop) : As := obj T (fun w A => Tab w T n L A) A
  (fun h => by obtain ⟨_, _, _, _, _, _, _, _, h, _⟩ := h; exact h)
  (fun h hk hn => tab_kept h ⟨hk.os, hk.tape, hk.output, hk.size, hk.block⟩ hn)
theorem tab_more {w : World} {T n : Nat} {L : List EntL} {A A' : Nat → Prop} (h : Tab w T n L A) (h1 : ∀ b, A b → A' b) (h2 : ∀ b, A' b → b < w.heap.size) : Tab w T n L A' := by
  obtain ⟨S, M, V, hx, hT, hS, hM, hV, hA, hn⟩ := h
  exact ⟨S, M, V, hx, h1 _ hT, h1 _ hS, h1 _ hM, fun t g hg => h1 _ (hV t g hg), h2, hn⟩
theorem tab_good {w : World} {T n : Nat} {L : List EntL} {A : Nat → Prop} (h : Tab w T n L A) : Good L ∧ 1 ≤ n ∧ n ≤ 64 := by
  obtain ⟨_, _, _, _, _, _, _, _, _, h1, h2, h3⟩ := h; exact ⟨h3, h1, h2⟩
theorem St.tget {w0 w w' : World} {G z : Nat → Prop} {O : List As} {T : List Rd} (H : St w0 G z O T w) (hb : Below w.heap.size w w') {B n : Nat} {L : List EntL} {A : Nat → Prop} (ht : Tab w' B n L A) (hA : ∀ b, A b → w.heap.size ≤ b) : St w0 G z (tobj B n L A :: O) T w' := H.gets hb (tobj B n L A) ht hA
theorem St.tput {w0 w w' : World} {G z : Nat → Prop} {O : List As} {T : List Rd} (H : St w0 G z O T w) (i : Nat) {B n : Nat} {L L' : List EntL} {A : Nat → Prop} (hO : O[i]? = some (tobj B n L A)) (hk : Kept w w' A) (ht : Tab w' B n L' (fun b => A b ∨ (w.heap.size ≤ b ∧ b < w'.heap.size))) :
    St w0 G z (O.set i (tobj B n L' (fun b => A b ∨ (w.heap.size ≤ b ∧ b < w'.heap.size)))) T w' := by
  have := H.upd i hO (tobj B n L' (fun b => A b ∨ (w.heap.size ≤ b ∧ b < w'.heap.size))) (w' := w') ⟨hk.os, hk.tape, hk.output, hk.size, hk.block⟩ ht (fun b hb => hb.imp id And.left) [] (by simp)
  simpa using this

/-- the sorted list with one put in is the document's -/
theorem wTo_false (x : EntL) : ∀ (l : List EntL) (p : List EntL), (∀ e ∈ l, ¬ x.id < e.id) → l.foldl (wStep x) (p, false) = (p ++ l, false)
  | [], p, _ => by simp
  | e :: l, p, h => by
    have := h e List.mem_cons_self
    rw [List.foldl_cons, show wStep x (p, false) e = (p ++ [e], false) by simp [wStep, this], wTo_false x l _ (fun q hq => h q (List.mem_cons_of_mem _ hq))]
    simp
theorem wTo_true (x : EntL) : ∀ (l : List EntL) (p : List EntL), l.foldl (wStep x) (p, true) = (p ++ l, true)
  | [], p => by simp
  | e :: l, p => by rw [List.foldl_cons, show wStep x (p, true) e = (p ++ [e], true) by simp [wStep], wTo_true x l]; simp
theorem with_ins {L : List EntL} (hs : L.Pairwise (fun a b => a.id < b.id)) (x : EntL) (hno : ∀ e ∈ L, e.id ≠ x.id) : withE L x = insE L x := by
  have key : ∀ (l : List EntL) (p : List EntL), l.Pairwise (fun a b => a.id < b.id) → (∀ e ∈ l, e.id ≠ x.id) → (let r := l.foldl (wStep x) (p, false); if r.2 then r.1 else r.1 ++ [x]) = p ++ ((l.filter fun e => decide (e.id < x.id)) ++ [x] ++ l.filter fun e => !decide (e.id < x.id)) := by
    intro l
    induction l with
    | nil => intro p _ _; simp
    | cons e l ih =>
      intro p hs hno
      rw [List.pairwise_cons] at hs
      by_cases h : x.id < e.id
      · have h1 : ∀ q ∈ e :: l, ¬ q.id < x.id := fun q hq => by
          rcases List.mem_cons.1 hq with rfl | hq
          · omega
          · have := hs.1 q hq; omega
        rw [List.foldl_cons, show wStep x (p, false) e = (p ++ [x] ++ [e], true) by simp [wStep, h], wTo_true]
        rw [List.filter_eq_nil_iff.2 (by simpa using h1), List.filter_eq_self.2 (by simpa using h1)]
        simp
      · have hne := hno e List.mem_cons_self
        have hlt : e.id < x.id := by omega
        rw [List.foldl_cons, show wStep x (p, false) e = (p ++ [e], false) by simp [wStep, h], ih _ hs.2 (fun q hq => hno q (List.mem_cons_of_mem _ hq))]
        rw [List.filter_cons_of_pos (by simpa using hlt), List.filter_cons_of_neg (by simpa using hlt)]
        simp
  have := key L [] hs hno
  rw [List.nil_append] at this
  exact this
theorem putR_good {L : List EntL} (h : Good L) (x : EntL) : Good (putR L x).1 := by
  unfold putR
  split
  · rename_i h1
    split
    · exact h
    · rename_i h2
      have hno := getE_false (by simpa using h2)
      show Good (withE L x)
      rw [with_ins h.sorted x hno]
      exact insE_good h (okE_iff.1 h1) hno
  · exact h
/-- Put, whatever is put -/
theorem put_any (T n : Nat) (L : List EntL) (A : Nat → Prop) (x : EntL) (w : World) (h : Tab w T n L A) :
    Calls Try.prog 22 #[.pointer (some ⟨T, 0, none⟩), .agg (ec x).toArray] w fun e w' => e = .returned (.int .i64 (putR L x).2) ∧ Tab w' T n (putR L x).1 (fun b => A b ∨ (w.heap.size ≤ b ∧ b < w'.heap.size)) ∧ Kept w w' A := by
  have hA : ∀ b, A b → b < w.heap.size := by obtain ⟨_, _, _, _, _, _, _, _, h, _⟩ := h; exact h
  have same : ∀ w', Below w.heap.size w w' → Tab w' T n L (fun b => A b ∨ (w.heap.size ≤ b ∧ b < w'.heap.size)) ∧ Kept w w' A := fun w' hb =>
    ⟨tab_more (tab_below h hb) (fun b hb => .inl hb) (fun b h => by rcases h with h | h; have := hA b h; have := hb.size; omega; exact h.2), kept_below hb _⟩
  unfold putR
  by_cases ho : okE x = true
  · rw [if_pos ho]
    by_cases hg : (getE L x.id).2 = true
    · rw [if_pos hg]
      exact (put_there T n L A x (okE_iff.1 ho) hg w h).mono fun e w' ⟨h1, h2⟩ => ⟨h1, same w' h2⟩
    · rw [if_neg hg]
      have hg' : (getE L x.id).2 = false := by simpa using hg
      show Calls _ _ _ _ fun e w' => e = .returned (.int .i64 0) ∧ Tab w' T n (withE L x) _ ∧ _
      rw [with_ins (tab_good h).1.sorted x (getE_false hg')]
      exact put_new T n L A x (okE_iff.1 ho) hg' w h
  · rw [if_neg ho]
    exact (put_bad T n L A x (mt okE_iff.2 ho) w h).mono fun e w' ⟨h1, h2⟩ => ⟨h1, same w' h2⟩
end Go.Proofs.Ytkifagflnpkkaaa
