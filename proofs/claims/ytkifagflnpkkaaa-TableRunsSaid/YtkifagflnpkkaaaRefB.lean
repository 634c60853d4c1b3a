/- The reference's table: Get, with, without, Put. No condition. -/
import Derived.Test.YtkifagflnpkkaaaArm
import Derived.Test.YtkifagflnpkkaaaRul
import Derived.Test.YtkifagflnpkkaaaRefA
namespace Go.Proofs.Ytkifagflnpkkaaa
set_option linter.unusedSimpArgs false
set_option linter.unusedVariables false
-- FSX: ec
open Go.RowKit
set_option maxRecDepth 10000

abbrev rEnt : Rdr EntL where
  n := 8
  R _ _ cs x := cs = ec x
  len h := by rw [h]; rfl
  one h := by rw [h]; exact ec_one _
  stay h _ := h

theorem getE_cons (x : EntL) (L : List EntL) (k : Int) : getE (x :: L) k = if x.id = k then (x, true) else getE L k := by
  unfold getE
  by_cases h : x.id = k
  · simp [h]
  · simp [h]

set_option maxHeartbeats 1000000 in
theorem rget_any (z : Nat → Prop) (n : Int) (v : Value) (L : List EntL) (q : Int) (w : World) (hv : SlZ rEnt z w v L) :
    Calls Try.prog 45 #[.agg #[.int .i64 n, v], .int .i64 q] w fun e w' => e = .returned (.tuple #[.agg (ec (getE L q).1).toArray, .bool (getE L q).2]) ∧ Below w.heap.size w w' := by
  obtain ⟨ad, cap, rfl, hlc, hcm⟩ := hv.shape
  unfold maxLen at hcm
  have H := Lib.hid (St.start w z [rdS rEnt _ L] (by simp only [List.mem_singleton, forall_eq]; exact hv))
  clear hv
  go_enter Try.func45, Try.ntmps45
  go_wp2_with (first
    | (show wpList _ _ _ _ _ (World.drewN _ _); refine wl_drewN H.out ?_; intro w4 H1 hle4; (try clear F); clear H; have H := Lib.hid H1; have F := H1.facts; simp only [fxx, ec] at F; clear H1)
    | (show Code.wp _ _ _ _ (World.drewN _ _); refine cw_drewN H.out ?_; intro w4 H1 hle4; (try clear F); clear H; have H := Lib.hid H1; have F := H1.facts; simp only [fxx, ec] at F; clear H1)
    | (show wpList _ _ _ _ _ (World.alloc _ _); refine wl_absorb H.out ?_; intro w1 H1 hlt1; (try clear F); clear H; have H := Lib.hid H1; have F := H1.facts; simp only [fxx, ec] at F; clear H1)
    | (show Code.wp _ _ _ _ (World.alloc _ _); refine cw_absorb H.out ?_; intro w2 H1 hlt2; (try clear F); clear H; have H := Lib.hid H1; have F := H1.facts; simp only [fxx, ec] at F; clear H1)
    | (show wpList _ _ _ (Oper.mk none (Op.store _ _ _) _ _ _ _ :: _) _ _; (first | refine wl_store H.out 0 rfl rfl rfl (by rfl) (by simp [Act.eval, Value.cells]; rfl) (by kernel_rfl) (by simp) (by simp [Value.oneCell']) ?_ | refine wl_store H.out 1 rfl rfl rfl (by rfl) (by simp [Act.eval, Value.cells]; rfl) (by kernel_rfl) (by simp) (by simp [Value.oneCell']) ?_); intro w3 H1 hle3; simp only [px] at H1; (try clear F); clear H; have H := Lib.hid H1; have F := H1.facts; simp only [fxx, ec] at F; clear H1))
  clear F
  go_loopw [6] (fun i wr => ∃ k : Nat, k ≤ L.length ∧ i = .int .i64 k ∧ getE L q = getE (L.drop k) q ∧ St w (fun _ => False) z [va w1.heap.size _ _, va w.heap.size _ _] [rdS rEnt (.slice ad L.length cap) L] wr) (fun i _ => L.length - (intOf i).toNat)
  case atStart => exact ⟨0, Nat.zero_le _, rfl, rfl, H.out⟩
  case round =>
    obtain ⟨k, hk, rfl, hg, hS⟩ := hrel
    have HG := Lib.hid hg
    clear H hg
    by_cases hlt : k < L.length
    · obtain ⟨x, hx⟩ : ∃ x, L[k]? = some x := ⟨_, List.getElem?_eq_getElem hlt⟩
      obtain ⟨b, o, cs, rfl, hzb, hr, rfl⟩ := SlZ.get (hS.rd 0 rfl) hx
      have H := Lib.hid (hS.also (rdE b (o + k * 8) (ec x)) ⟨hzb, hr⟩)
      have F := H.out.facts
      simp only [fxx, ec, ec] at F
      have hlt' : (k : Int) < L.length := by omega
      have HD : Hid (getE (L.drop k) q = if x.id = q then (x, true) else getE (L.drop (k + 1)) q) := by unfold Hid; rw [List.drop_eq_getElem_cons hlt, getE_cons]; rw [List.getElem?_eq_getElem hlt] at hx; cases hx; rfl
      clear hS hx hzb hr
      by_cases he : x.id = q
      · subst he
        go_wp2_with (first
          | (show wpList _ _ _ _ _ (World.drewN _ _); refine wl_drewN H.out ?_; intro w4 H1 hle4; (try clear F); clear H; have H := Lib.hid H1; have F := H1.facts; simp only [fxx, ec] at F; clear H1)
          | (show Code.wp _ _ _ _ (World.drewN _ _); refine cw_drewN H.out ?_; intro w4 H1 hle4; (try clear F); clear H; have H := Lib.hid H1; have F := H1.facts; simp only [fxx, ec] at F; clear H1)
          | (show wpList _ _ _ _ _ (World.alloc _ _); refine wl_absorb H.out ?_; intro w1 H1 hlt1; (try clear F); clear H; have H := Lib.hid H1; have F := H1.facts; simp only [fxx, ec] at F; clear H1)
          | (show Code.wp _ _ _ _ (World.alloc _ _); refine cw_absorb H.out ?_; intro w2 H1 hlt2; (try clear F); clear H; have H := Lib.hid H1; have F := H1.facts; simp only [fxx, ec] at F; clear H1)
          | (show wpList _ _ _ (Oper.mk none (Op.store _ _ _) _ _ _ _ :: _) _ _; (first | refine wl_store H.out 0 rfl rfl rfl (by rfl) (by simp [Act.eval, Value.cells]; rfl) (by kernel_rfl) (by simp) (by simp [Value.oneCell']) ?_ | refine wl_store H.out 1 rfl rfl rfl (by rfl) (by simp [Act.eval, Value.cells]; rfl) (by kernel_rfl) (by simp) (by simp [Value.oneCell']) ?_); intro w3 H1 hle3; simp only [px] at H1; (try clear F); clear H; have H := Lib.hid H1; have F := H1.facts; simp only [fxx, ec] at F; clear H1))
        exact bodyPost_ret (ret_ct rfl rfl rfl (H.out.has 0 rfl) row_40 rfl) rfl ⟨by rw [HG.out, HD.out]; simp [ec], H.out.below'⟩
      · go_wp2
        exact ⟨⟨k + 1, hlt, by go_num, by rw [HG.out, HD.out, if_neg he], H.out.sub (List.Sublist.refl _) (by simp)⟩, by simp [intOf]; omega⟩
    · obtain rfl : k = L.length := by omega
      have H := Lib.hid hS
      (try clear F); have F := H.out.facts; simp only [fxx, ec] at F
      clear hS
      go_wp2_with (first
        | (show wpList _ _ _ _ _ (World.drewN _ _); refine wl_drewN H.out ?_; intro w4 H1 hle4; (try clear F); clear H; have H := Lib.hid H1; have F := H1.facts; simp only [fxx, ec] at F; clear H1)
        | (show Code.wp _ _ _ _ (World.drewN _ _); refine cw_drewN H.out ?_; intro w4 H1 hle4; (try clear F); clear H; have H := Lib.hid H1; have F := H1.facts; simp only [fxx, ec] at F; clear H1)
        | (show wpList _ _ _ _ _ (World.alloc _ _); refine wl_absorb H.out ?_; intro w1 H1 hlt1; (try clear F); clear H; have H := Lib.hid H1; have F := H1.facts; simp only [fxx, ec] at F; clear H1)
        | (show Code.wp _ _ _ _ (World.alloc _ _); refine cw_absorb H.out ?_; intro w2 H1 hlt2; (try clear F); clear H; have H := Lib.hid H1; have F := H1.facts; simp only [fxx, ec] at F; clear H1)
        | (show wpList _ _ _ (Oper.mk none (Op.store _ _ _) _ _ _ _ :: _) _ _; (first | refine wl_store H.out 0 rfl rfl rfl (by rfl) (by simp [Act.eval, Value.cells]; rfl) (by kernel_rfl) (by simp) (by simp [Value.oneCell']) ?_ | refine wl_store H.out 1 rfl rfl rfl (by rfl) (by simp [Act.eval, Value.cells]; rfl) (by kernel_rfl) (by simp) (by simp [Value.oneCell']) ?_); intro w3 H1 hle3; simp only [px] at H1; (try clear F); clear H; have H := Lib.hid H1; have F := H1.facts; simp only [fxx, ec] at F; clear H1))
      exact bodyPost_ret (ret_ct rfl rfl rfl (H.out.has 0 rfl) row_40 rfl) rfl ⟨by rw [HG.out, List.drop_length]; rfl, H.out.below'⟩

/-- one step of 'with' -/
def wStep (x : EntL) (p : List EntL × Bool) (e : EntL) : List EntL × Bool := if p.2 = false ∧ x.id < e.id then (p.1 ++ [x] ++ [e], true) else (p.1 ++ [e], p.2)
def wTo (x : EntL) (l : List EntL) : List EntL × Bool := l.foldl (wStep x) ([], false)
theorem wTo_snoc (x : EntL) (l : List EntL) (e : EntL) : wTo x (l ++ [e]) = wStep x (wTo x l) e := by simp [wTo]
theorem wTo_len (x : EntL) : ∀ (l : List EntL) (p : List EntL × Bool), (l.foldl (wStep x) p).1.length ≤ p.1.length + 2 * l.length
  | [], p => by simp
  | e :: l, p => by
    have := wTo_len x l (wStep x p e)
    have h2 : (wStep x p e).1.length ≤ p.1.length + 2 := by unfold wStep; split <;> simp
    simp only [List.foldl_cons, List.length_cons]
    omega
def withE (l : List EntL) (x : EntL) : List EntL := if (wTo x l).2 then (wTo x l).1 else (wTo x l).1 ++ [x]
theorem ecs_snoc (l : List EntL) (x : EntL) : ((l ++ [x]).map ec).flatten = (l.map ec).flatten ++ ec x := by simp

set_option maxHeartbeats 4000000 in
theorem with_any (z : Nat → Prop) (v : Value) (L : List EntL) (y : EntL) (w : World) (hv : SlZ rEnt z w v L) (hL : L.length ≤ 100000) :
    Calls Try.prog 50 #[v, .agg (ec y).toArray] w fun e w' => ∃ v', e = .returned v' ∧ Below w.heap.size w w' ∧ w'.ownsRow 0 40 8 v' (withE L y).length ((withE L y).map ec).flatten ∧ (∀ b, v'.ownBlock = some b → w.heap.size ≤ b) := by
  obtain ⟨ad, cap, rfl, hlc, hcm⟩ := hv.shape
  unfold maxLen at hcm
  have H := Lib.hid (St.start w z [rdS rEnt _ L] (by simp only [List.mem_singleton, forall_eq]; exact hv))
  clear hv
  go_enter Try.func50, Try.ntmps50
  simp only [ec]
  go_wp2_with (first
    | (show wpList _ _ _ _ _ (World.drewN _ _); refine wl_drewN H.out ?_; intro w4 H1 hle4; (try clear F); clear H; have H := Lib.hid H1; have F := H1.facts; simp only [fxx, ec] at F; clear H1)
    | (show Code.wp _ _ _ _ (World.drewN _ _); refine cw_drewN H.out ?_; intro w4 H1 hle4; (try clear F); clear H; have H := Lib.hid H1; have F := H1.facts; simp only [fxx, ec] at F; clear H1)
    | (show wpList _ _ _ _ _ (World.alloc _ _); refine wl_absorb H.out ?_; intro w1 H1 hlt1; (try clear F); clear H; have H := Lib.hid H1; have F := H1.facts; simp only [fxx, ec] at F; clear H1)
    | (show Code.wp _ _ _ _ (World.alloc _ _); refine cw_absorb H.out ?_; intro w2 H1 hlt2; (try clear F); clear H; have H := Lib.hid H1; have F := H1.facts; simp only [fxx, ec] at F; clear H1)
    | (show wpList _ _ _ (Oper.mk none (Op.store _ _ _) _ _ _ _ :: _) _ _; (first | refine wl_store H.out 0 rfl rfl rfl (by rfl) (by simp [Act.eval, Value.cells]; rfl) (by kernel_rfl) (by simp) (by simp [Value.oneCell']) ?_ | refine wl_store H.out 1 rfl rfl rfl (by rfl) (by simp [Act.eval, Value.cells]; rfl) (by kernel_rfl) (by simp) (by simp [Value.oneCell']) ?_); intro w3 H1 hle3; simp only [px] at H1; (try clear F); clear H; have H := Lib.hid H1; have F := H1.facts; simp only [fxx, ec] at F; clear H1))
  replace H := Lib.hid (H.out.empty 40 8)
  clear F
  go_loopw [5, 6, 7] (fun o d i wr => ∃ k : Nat, k ≤ L.length ∧ i = .int .i64 k ∧ d = .bool (wTo y (L.take k)).2 ∧ St w (fun _ => False) z [vec 40 8 o (wTo y (L.take k)).1.length ((wTo y (L.take k)).1.map ec).flatten, va w.heap.size _ _] [rdS rEnt (.slice ad L.length cap) L] wr) (fun _ _ i _ => L.length - (intOf i).toNat)
  case atStart => exact ⟨0, Nat.zero_le _, rfl, rfl, H.out⟩
  case round =>
    obtain ⟨k, hk, rfl, rfl, hS⟩ := hrel
    clear H
    by_cases hlt : k < L.length
    · obtain ⟨x, hx⟩ : ∃ x, L[k]? = some x := ⟨_, List.getElem?_eq_getElem hlt⟩
      obtain ⟨b, o, cs, rfl, hzb, hr, rfl⟩ := SlZ.get (hS.rd 0 rfl) hx
      have H := Lib.hid (hS.also (rdE b (o + k * 8) (ec x)) ⟨hzb, hr⟩)
      have F := H.out.facts
      simp only [fxx, ec, ec] at F
      have hlt' : (k : Int) < L.length := by omega
      have HT : Hid (wTo y (L.take (k + 1)) = wStep y (wTo y (L.take k)) x) := by unfold Hid; rw [List.take_add_one, hx]; exact wTo_snoc _ _ _
      have hln := wTo_len y (L.take k) ([], false)
      rw [List.length_take] at hln
      change (wTo y (L.take k)).1.length ≤ _ at hln
      simp only [List.length_nil] at hln
      clear hS hx hzb hr
      generalize wTo y (L.take k) = p at *
      obtain ⟨p, d⟩ := p
      have hln : p.length ≤ 2 * L.length := by simp at hln; omega
      by_cases hc : d = false ∧ y.id < x.id
      · obtain ⟨rfl, hc⟩ := hc
        have HT' : Hid (wTo y (L.take (k + 1)) = (p ++ [y] ++ [x], true)) := by unfold Hid; rw [HT.out]; simp [wStep, hc]
        clear HT
        go_wp2_with (first
          | (show wpList _ _ _ _ _ (World.drewN _ _); refine wl_drewN H.out ?_; intro w4 H1 hle4; (try clear F); clear H; have H := Lib.hid H1; have F := H1.facts; simp only [fxx, ec] at F; clear H1)
          | (show Code.wp _ _ _ _ (World.drewN _ _); refine cw_drewN H.out ?_; intro w4 H1 hle4; (try clear F); clear H; have H := Lib.hid H1; have F := H1.facts; simp only [fxx, ec] at F; clear H1)
          | (show wpList _ _ _ _ _ (World.alloc _ _); refine wl_absorb H.out ?_; intro w1 H1 hlt1; (try clear F); clear H; have H := Lib.hid H1; have F := H1.facts; simp only [fxx, ec] at F; clear H1)
          | (show Code.wp _ _ _ _ (World.alloc _ _); refine cw_absorb H.out ?_; intro w2 H1 hlt2; (try clear F); clear H; have H := Lib.hid H1; have F := H1.facts; simp only [fxx, ec] at F; clear H1)
          | (show wpList _ _ _ (Oper.mk none (Op.store _ _ _) _ _ _ _ :: _) _ _; (first | refine wl_store H.out 0 rfl rfl rfl (by rfl) (by simp [Act.eval, Value.cells]; rfl) (by kernel_rfl) (by simp) (by simp [Value.oneCell']) ?_ | refine wl_store H.out 1 rfl rfl rfl (by rfl) (by simp [Act.eval, Value.cells]; rfl) (by kernel_rfl) (by simp) (by simp [Value.oneCell']) ?_); intro w3 H1 hle3; simp only [px] at H1; (try clear F); clear H; have H := Lib.hid H1; have F := H1.facts; simp only [fxx, ec] at F; clear H1))
        go_quiet (fail)
        go_wp2_with (first
          | (show wpList _ _ _ _ _ (World.drewN _ _); refine wl_drewN H.out ?_; intro w4 H1 hle4; (try clear F); clear H; have H := Lib.hid H1; have F := H1.facts; simp only [fxx, ec] at F; clear H1)
          | (show Code.wp _ _ _ _ (World.drewN _ _); refine cw_drewN H.out ?_; intro w4 H1 hle4; (try clear F); clear H; have H := Lib.hid H1; have F := H1.facts; simp only [fxx, ec] at F; clear H1)
          | (show wpList _ _ _ _ _ (World.alloc _ _); refine wl_absorb H.out ?_; intro w1 H1 hlt1; (try clear F); clear H; have H := Lib.hid H1; have F := H1.facts; simp only [fxx, ec] at F; clear H1)
          | (show Code.wp _ _ _ _ (World.alloc _ _); refine cw_absorb H.out ?_; intro w2 H1 hlt2; (try clear F); clear H; have H := Lib.hid H1; have F := H1.facts; simp only [fxx, ec] at F; clear H1)
          | (show wpList _ _ _ (Oper.mk none (Op.store _ _ _) _ _ _ _ :: _) _ _; (first | refine wl_store H.out 0 rfl rfl rfl (by rfl) (by simp [Act.eval, Value.cells]; rfl) (by kernel_rfl) (by simp) (by simp [Value.oneCell']) ?_ | refine wl_store H.out 1 rfl rfl rfl (by rfl) (by simp [Act.eval, Value.cells]; rfl) (by kernel_rfl) (by simp) (by simp [Value.oneCell']) ?_); intro w3 H1 hle3; simp only [px] at H1; (try clear F); clear H; have H := Lib.hid H1; have F := H1.facts; simp only [fxx, ec] at F; clear H1)
          | (at_builtin; refine wl_append H.out 1 rfl el_ent rfl rfl (by rfl) rfl (src_va (H.out.has 0 rfl) _ 1 1 rfl (by simp [Value.oneCell'])) (by first | omega | (simp; omega)) ?_; intro v5 w5 H1 hle5; simp only [List.set_cons_zero, List.set_cons_succ] at H1; replace H1 := H1.sub (List.sublist_cons_self _ _) (fun _ h => h); (try clear F); clear H; have H := Lib.hid H1; have F := H1.facts; simp only [fxx, ec] at F; clear H1))
        exact ⟨⟨k + 1, hlt, by go_num, by rw [HT'.out], by rw [HT'.out, ecs_snoc, ecs_snoc, List.length_append, List.length_append]; exact H.out.sub (List.Sublist.refl _) (by simp)⟩, by simp [intOf]; omega⟩
      · have HT' : Hid (wTo y (L.take (k + 1)) = (p ++ [x], d)) := by unfold Hid; rw [HT.out]; simp only [wStep]; rw [if_neg hc]
        clear HT
        have hd : d = true ∨ d = false ∧ ¬ y.id < x.id := by cases d <;> simp_all
        rcases hd with rfl | ⟨rfl, hd⟩
        all_goals
          go_wp2_with (first
            | (show wpList _ _ _ _ _ (World.drewN _ _); refine wl_drewN H.out ?_; intro w4 H1 hle4; (try clear F); clear H; have H := Lib.hid H1; have F := H1.facts; simp only [fxx, ec] at F; clear H1)
            | (show Code.wp _ _ _ _ (World.drewN _ _); refine cw_drewN H.out ?_; intro w4 H1 hle4; (try clear F); clear H; have H := Lib.hid H1; have F := H1.facts; simp only [fxx, ec] at F; clear H1)
            | (show wpList _ _ _ _ _ (World.alloc _ _); refine wl_absorb H.out ?_; intro w1 H1 hlt1; (try clear F); clear H; have H := Lib.hid H1; have F := H1.facts; simp only [fxx, ec] at F; clear H1)
            | (show Code.wp _ _ _ _ (World.alloc _ _); refine cw_absorb H.out ?_; intro w2 H1 hlt2; (try clear F); clear H; have H := Lib.hid H1; have F := H1.facts; simp only [fxx, ec] at F; clear H1)
            | (show wpList _ _ _ (Oper.mk none (Op.store _ _ _) _ _ _ _ :: _) _ _; (first | refine wl_store H.out 0 rfl rfl rfl (by rfl) (by simp [Act.eval, Value.cells]; rfl) (by kernel_rfl) (by simp) (by simp [Value.oneCell']) ?_ | refine wl_store H.out 1 rfl rfl rfl (by rfl) (by simp [Act.eval, Value.cells]; rfl) (by kernel_rfl) (by simp) (by simp [Value.oneCell']) ?_); intro w3 H1 hle3; simp only [px] at H1; (try clear F); clear H; have H := Lib.hid H1; have F := H1.facts; simp only [fxx, ec] at F; clear H1))
          go_quiet (fail)
          go_wp2_with (first
            | (show wpList _ _ _ _ _ (World.drewN _ _); refine wl_drewN H.out ?_; intro w4 H1 hle4; (try clear F); clear H; have H := Lib.hid H1; have F := H1.facts; simp only [fxx, ec] at F; clear H1)
            | (show Code.wp _ _ _ _ (World.drewN _ _); refine cw_drewN H.out ?_; intro w4 H1 hle4; (try clear F); clear H; have H := Lib.hid H1; have F := H1.facts; simp only [fxx, ec] at F; clear H1)
            | (show wpList _ _ _ _ _ (World.alloc _ _); refine wl_absorb H.out ?_; intro w1 H1 hlt1; (try clear F); clear H; have H := Lib.hid H1; have F := H1.facts; simp only [fxx, ec] at F; clear H1)
            | (show Code.wp _ _ _ _ (World.alloc _ _); refine cw_absorb H.out ?_; intro w2 H1 hlt2; (try clear F); clear H; have H := Lib.hid H1; have F := H1.facts; simp only [fxx, ec] at F; clear H1)
            | (show wpList _ _ _ (Oper.mk none (Op.store _ _ _) _ _ _ _ :: _) _ _; (first | refine wl_store H.out 0 rfl rfl rfl (by rfl) (by simp [Act.eval, Value.cells]; rfl) (by kernel_rfl) (by simp) (by simp [Value.oneCell']) ?_ | refine wl_store H.out 1 rfl rfl rfl (by rfl) (by simp [Act.eval, Value.cells]; rfl) (by kernel_rfl) (by simp) (by simp [Value.oneCell']) ?_); intro w3 H1 hle3; simp only [px] at H1; (try clear F); clear H; have H := Lib.hid H1; have F := H1.facts; simp only [fxx, ec] at F; clear H1)
            | (at_builtin; refine wl_append H.out 1 rfl el_ent rfl rfl (by rfl) rfl (src_va (H.out.has 0 rfl) _ 1 1 rfl (by simp [Value.oneCell'])) (by first | omega | (simp; omega)) ?_; intro v5 w5 H1 hle5; simp only [List.set_cons_zero, List.set_cons_succ] at H1; replace H1 := H1.sub (List.sublist_cons_self _ _) (fun _ h => h); (try clear F); clear H; have H := Lib.hid H1; have F := H1.facts; simp only [fxx, ec] at F; clear H1))
          exact ⟨⟨k + 1, hlt, by go_num, by rw [HT'.out], by rw [HT'.out, ecs_snoc, List.length_append]; exact H.out.sub (List.Sublist.refl _) (by simp)⟩, by simp [intOf]; omega⟩
    · obtain rfl : k = L.length := by omega
      rw [List.take_length] at hS ⊢
      have H := Lib.hid hS
      (try clear F); have F := H.out.facts; simp only [fxx, ec] at F
      have hln := wTo_len y L ([], false)
      change (wTo y L).1.length ≤ _ at hln
      simp only [List.length_nil] at hln
      clear hS
      have HE : Hid (withE L y = if (wTo y L).2 then (wTo y L).1 else (wTo y L).1 ++ [y]) := rfl
      generalize wTo y L = p at *
      obtain ⟨p, d⟩ := p
      cases d
      · go_wp2_with (first
          | (show wpList _ _ _ _ _ (World.drewN _ _); refine wl_drewN H.out ?_; intro w4 H1 hle4; (try clear F); clear H; have H := Lib.hid H1; have F := H1.facts; simp only [fxx, ec] at F; clear H1)
          | (show Code.wp _ _ _ _ (World.drewN _ _); refine cw_drewN H.out ?_; intro w4 H1 hle4; (try clear F); clear H; have H := Lib.hid H1; have F := H1.facts; simp only [fxx, ec] at F; clear H1)
          | (show wpList _ _ _ _ _ (World.alloc _ _); refine wl_absorb H.out ?_; intro w1 H1 hlt1; (try clear F); clear H; have H := Lib.hid H1; have F := H1.facts; simp only [fxx, ec] at F; clear H1)
          | (show Code.wp _ _ _ _ (World.alloc _ _); refine cw_absorb H.out ?_; intro w2 H1 hlt2; (try clear F); clear H; have H := Lib.hid H1; have F := H1.facts; simp only [fxx, ec] at F; clear H1)
          | (show wpList _ _ _ (Oper.mk none (Op.store _ _ _) _ _ _ _ :: _) _ _; (first | refine wl_store H.out 0 rfl rfl rfl (by rfl) (by simp [Act.eval, Value.cells]; rfl) (by kernel_rfl) (by simp) (by simp [Value.oneCell']) ?_ | refine wl_store H.out 1 rfl rfl rfl (by rfl) (by simp [Act.eval, Value.cells]; rfl) (by kernel_rfl) (by simp) (by simp [Value.oneCell']) ?_); intro w3 H1 hle3; simp only [px] at H1; (try clear F); clear H; have H := Lib.hid H1; have F := H1.facts; simp only [fxx, ec] at F; clear H1)
          | (at_builtin; refine wl_append H.out 1 rfl el_ent rfl rfl (by rfl) rfl (src_va (H.out.has 0 rfl) _ 1 1 rfl (by simp [Value.oneCell'])) (by first | omega | (simp; omega)) ?_; intro v5 w5 H1 hle5; simp only [List.set_cons_zero, List.set_cons_succ] at H1; replace H1 := H1.sub (List.sublist_cons_self _ _) (fun _ h => h); (try clear F); clear H; have H := Lib.hid H1; have F := H1.facts; simp only [fxx, ec] at F; clear H1))
        go_ret
        refine ⟨_, rfl, ?_⟩
        rw [HE.out, if_neg (by simp), ecs_snoc, List.length_append]
        exact H.out.end_vec
      · go_wp2_with (first
          | (show wpList _ _ _ _ _ (World.drewN _ _); refine wl_drewN H.out ?_; intro w4 H1 hle4; (try clear F); clear H; have H := Lib.hid H1; have F := H1.facts; simp only [fxx, ec] at F; clear H1)
          | (show Code.wp _ _ _ _ (World.drewN _ _); refine cw_drewN H.out ?_; intro w4 H1 hle4; (try clear F); clear H; have H := Lib.hid H1; have F := H1.facts; simp only [fxx, ec] at F; clear H1)
          | (show wpList _ _ _ _ _ (World.alloc _ _); refine wl_absorb H.out ?_; intro w1 H1 hlt1; (try clear F); clear H; have H := Lib.hid H1; have F := H1.facts; simp only [fxx, ec] at F; clear H1)
          | (show Code.wp _ _ _ _ (World.alloc _ _); refine cw_absorb H.out ?_; intro w2 H1 hlt2; (try clear F); clear H; have H := Lib.hid H1; have F := H1.facts; simp only [fxx, ec] at F; clear H1)
          | (show wpList _ _ _ (Oper.mk none (Op.store _ _ _) _ _ _ _ :: _) _ _; (first | refine wl_store H.out 0 rfl rfl rfl (by rfl) (by simp [Act.eval, Value.cells]; rfl) (by kernel_rfl) (by simp) (by simp [Value.oneCell']) ?_ | refine wl_store H.out 1 rfl rfl rfl (by rfl) (by simp [Act.eval, Value.cells]; rfl) (by kernel_rfl) (by simp) (by simp [Value.oneCell']) ?_); intro w3 H1 hle3; simp only [px] at H1; (try clear F); clear H; have H := Lib.hid H1; have F := H1.facts; simp only [fxx, ec] at F; clear H1)
          | (at_builtin; refine wl_append H.out 1 rfl el_ent rfl rfl (by rfl) rfl (src_va (H.out.has 0 rfl) _ 1 1 rfl (by simp [Value.oneCell'])) (by first | omega | (simp; omega)) ?_; intro v5 w5 H1 hle5; simp only [List.set_cons_zero, List.set_cons_succ] at H1; replace H1 := H1.sub (List.sublist_cons_self _ _) (fun _ h => h); (try clear F); clear H; have H := Lib.hid H1; have F := H1.facts; simp only [fxx, ec] at F; clear H1))
        go_ret
        refine ⟨_, rfl, ?_⟩
        rw [HE.out, if_pos (by simp)]
        exact H.out.end_vec
end Go.Proofs.Ytkifagflnpkkaaa
