/- TableRuns: any calls of any table. No condition. -/
import Derived.Test.YtkifagflnpkkaaaStep
import Derived.Test.YtkifagflnpkkaaaStepB
import Derived.Test.YtkifagflnpkkaaaTSam
namespace Go.Proofs.Ytkifagflnpkkaaa
set_option linter.unusedSimpArgs false
set_option linter.unusedVariables false
-- FSX: ec, iv, facts_tobj, macs, opc
open Go.RowKit
set_option maxRecDepth 10000

/-- a call -/
structure OpL where
  (d : UInt8) (id : Int) (m : UInt8) (t u s : Int)
def opc (x : OpL) : List Value := [bv x.d, .int .i64 x.id, bv x.m, .int .i64 x.t, .int .i64 x.u, .int .i64 x.s]
abbrev rOp : Rdr OpL where
  n := 6
  R _ _ cs x := cs = opc x
  len h := by rw [h]; rfl
  one h := by rw [h]; simp [opc, Value.oneCell']
  stay h _ := h
theorem step_any (w : World) (G z : Nat → Prop) (B n X : Nat) (L : List EntL) (A : Nat → Prop) (ad : Option Addr) (c : Nat) (x : OpL) (H : BothIs w G z B n X L A ad c w) :
    Calls Try.prog 25 #[.pointer (some ⟨B, 0, none⟩), .agg (opc x).toArray] w fun e w' => e = .returned (.bool true) ∧ ∃ X' L' A' ad' c', BothIs w G z B n X' L' A' ad' c' w' := by
  have h : x.d.toNat % 8 < 2 ∨ x.d.toNat % 8 = 2 ∨ x.d.toNat % 8 = 3 ∨ x.d.toNat % 8 = 4 ∨ x.d.toNat % 8 = 5 ∨ x.d.toNat % 8 = 6 ∨ x.d.toNat % 8 = 7 := by omega
  rcases h with h | h | h | h | h | h | h
  · exact step_put w G z B n X L A ad c _ _ _ _ _ _ h H
  · exact step_touch w G z B n X L A ad c _ _ _ _ _ _ h H
  · exact step_remove w G z B n X L A ad c _ _ _ _ _ _ h H
  · exact step_get w G z B n X L A ad c _ _ _ _ _ _ h H
  · exact step_list w G z B n X L A ad c _ _ _ _ _ _ h H
  · exact step_idle w G z B n X L A ad c _ _ _ _ _ _ h H
  · exact step_fork w G z B n X L A ad c _ _ _ _ _ _ h H

set_option maxHeartbeats 8000000 in
theorem lawRuns (z : Nat → Prop) (s : Int) (v : Value) (l : List OpL) (w : World) (hv : SlZ rOp z w v l) :
    Calls Try.prog 7 #[.int .i64 s, v] w fun e w' => e = .returned (.bool true) ∧ Below w.heap.size w w' := by
  have HAwk : Hid (∀ w, Calls Try.prog 10 #[] w fun e w' => e = .returned (.bool true) ∧ Below w.heap.size w w') := awake_true
  obtain ⟨ad, cap, rfl, hlc, hcm⟩ := hv.shape
  unfold maxLen at hcm
  have H := Lib.hid (St.start w z [rdS rOp _ l] (by simp only [List.mem_singleton, forall_eq]; exact hv))
  clear hv
  by_cases hs : 1 ≤ s ∧ s ≤ 64
  · obtain ⟨n, rfl⟩ : ∃ n : Nat, s = n := ⟨s.toNat, by omega⟩
    have hn1 : 1 ≤ n := by omega
    have hn2 : n ≤ 64 := by omega
    clear hs
    go_enter Try.func7, Try.ntmps7
    go_wp2_with (first
      | (show wpList _ _ _ _ _ (World.drewN _ _); refine wl_drewN H.out ?_; intro w4 H1 hle4; (try clear F); clear H; have H := Lib.hid H1; have F := H1.facts; simp only [fxx, ec, iv, facts_tobj, macs, opc] at F; clear H1)
      | (show Code.wp _ _ _ _ (World.drewN _ _); refine cw_drewN H.out ?_; intro w4 H1 hle4; (try clear F); clear H; have H := Lib.hid H1; have F := H1.facts; simp only [fxx, ec, iv, facts_tobj, macs, opc] at F; clear H1)
      | (show wpList _ _ _ _ _ (World.alloc _ _); refine wl_absorb H.out ?_; intro w1 H1 hlt1; (try clear F); clear H; have H := Lib.hid H1; have F := H1.facts; simp only [fxx, ec, iv, facts_tobj, macs, opc] at F; clear H1)
      | (show Code.wp _ _ _ _ (World.alloc _ _); refine cw_absorb H.out ?_; intro w2 H1 hlt2; (try clear F); clear H; have H := Lib.hid H1; have F := H1.facts; simp only [fxx, ec, iv, facts_tobj, macs, opc] at F; clear H1)
      | (show wpList _ _ _ (Oper.mk none (Op.store _ _ _) _ _ _ _ :: _) _ _; (first | refine wl_store H.out 0 rfl rfl rfl (by rfl) (by simp [Act.eval, Value.cells]; rfl) (by kernel_rfl) (by simp) (by simp [Value.oneCell']) ?_ | refine wl_store H.out 1 rfl rfl rfl (by rfl) (by simp [Act.eval, Value.cells]; rfl) (by kernel_rfl) (by simp) (by simp [Value.oneCell']) ?_ | refine wl_store H.out 2 rfl rfl rfl (by rfl) (by simp [Act.eval, Value.cells]; rfl) (by kernel_rfl) (by simp) (by simp [Value.oneCell']) ?_); intro w3 H1 hle3; (try show wpList _ _ _ _ ⟨_, _⟩ _); simp only [px] at H1; (try clear F); clear H; have H := Lib.hid H1; have F := H1.facts; simp only [fxx, ec, iv, facts_tobj, macs, opc] at F; clear H1)
      | (go_at_call 23; refine (new_yes n hn1 hn2 _).mono ?_; rintro e w5 ⟨T, rfl, hT, hb, ht⟩; have H1 := H.out.tget hb ht (fun b hb => hb.1); clear hb ht hT; (try clear F); clear H; have H := Lib.hid H1; have F := H1.facts; simp only [fxx, ec, iv, facts_tobj, macs, opc] at F; clear H1)
      | (go_at_call 24; refine (rnew_yes n hn1 hn2 _).mono ?_; rintro e w5 ⟨rfl, hb⟩; have H1 := H.out.same hb; clear hb; (try clear F); clear H; have H := Lib.hid H1; have F := H1.facts; simp only [fxx, ec, iv, facts_tobj, macs, opc] at F; clear H1)
      | (go_at_call 10; refine (HAwk.out _).mono ?_; rintro e w6 ⟨rfl, hb⟩; have H1 := H.out.same hb; clear hb; (try clear F); clear H; have H := Lib.hid H1; have F := H1.facts; simp only [fxx, ec, iv, facts_tobj, macs, opc] at F; clear H1))
    obtain ⟨X, A, ad', c', H1⟩ : ∃ X A ad' c', St w (fun _ => False) z [tobj X n [] A, va _ [.pointer (some ⟨X, 0, none⟩), .int .i64 n, .slice ad' ([] : List EntL).length c'] _] [rdS rEnt (.slice ad' ([] : List EntL).length c') [], rdS rOp (.slice ad l.length cap) l] _ := ⟨_, _, none, 0, ((H.out.front 2 rfl).also (rdS rEnt (.slice none 0 0) ([] : List EntL)) (SlZ.nil _ _ _)).sub (by repeat (first | exact List.Sublist.slnil | exact List.nil_sublist _ | apply List.Sublist.cons_cons | apply List.Sublist.cons)) (by intro _ h; simp only [List.mem_cons, List.not_mem_nil, or_false] at h ⊢; first | exact h | (simp [h]; done) | (rcases h with h | h <;> simp [h]; done) | (rcases h with h | h | h <;> simp [h]; done) | (rcases h with h | h | h | h <;> simp [h]; done))⟩
    (try clear F); clear H; have H := Lib.hid H1; have F := H1.facts; simp only [fxx, ec, iv, facts_tobj, macs, opc] at F; clear H1
    clear F
    go_loopw [10] (fun i wr => ∃ (k X : Nat) (L : List EntL) (A : Nat → Prop) (ad' : Option Addr) (c' : Nat), k ≤ l.length ∧ k ≤ 50 ∧ i = .int .i64 k ∧ St w (fun _ => False) z [tobj X n L A, va _ [.pointer (some ⟨X, 0, none⟩), .int .i64 n, .slice ad' L.length c'] _] [rdS rEnt (.slice ad' L.length c') L, rdS rOp (.slice ad l.length cap) l] wr) (fun i _ => 50 - (intOf i).toNat)
    case atStart => exact ⟨0, X, [], A, ad', c', Nat.zero_le _, Nat.zero_le _, rfl, H.out⟩
    case round =>
      obtain ⟨k, X, L, A, ad', c', hk, hk50, rfl, hS⟩ := hrel
      clear H
      by_cases hlt : k < l.length ∧ k < 50
      · obtain ⟨hlt, hlt5⟩ := hlt
        obtain ⟨x, hx⟩ : ∃ x, l[k]? = some x := ⟨_, List.getElem?_eq_getElem hlt⟩
        obtain ⟨b, o, cs, rfl, hzb, hr, rfl⟩ := SlZ.get (hS.rd 1 rfl) hx
        have H := Lib.hid (hS.also (rdE b (o + k * 6) (opc x)) ⟨hzb, hr⟩)
        have hlt' : (k : Int) < l.length := by omega
        have hlt5' : (k : Int) < 50 := by omega
        clear hS hx hzb hr
        (try clear F); have F := H.out.facts; simp only [fxx, ec, iv, facts_tobj, macs, opc] at F
        go_wp2_with (first
          | (go_at_call 25; refine (step_any _ _ _ _ n X L A ad' c' x (St.lend (Oi := [_, _]) (Or := []) H.out (by simp))).mono ?_; rintro e w5 ⟨rfl, X', L', A', ad2, c2, K⟩; have H1 := St.step (Oi := [_, _]) (Or := []) H.out K; simp only [List.cons_append, List.nil_append, List.append_nil] at H1; have hG' := tab_good (H1.has 0 rfl); have HG' := Lib.hid hG'; clear hG' K; (try clear F); clear H; have H := Lib.hid H1; have F := H1.facts; simp only [fxx, ec, iv, facts_tobj, macs, opc] at F; clear H1)
          | (go_at_call 20; refine (same_any (fun _ => True) _ n X' L' A' ad2 c2 x.m _ trivial (va_rng (H.out.has 1 rfl)) (H.out.has 0 rfl) (fun _ _ => trivial) (SlZ.stay (H.out.rd 0 rfl) (stay_wider fun _ _ _ => trivial)) (by have := HG'.out.1.len; omega)).mono ?_; rintro e w6 ⟨rfl, hb⟩; have H1 := H.out.same hb; clear hb; (try clear F); clear H; have H := Lib.hid H1; have F := H1.facts; simp only [fxx, ec, iv, facts_tobj, macs, opc] at F; clear H1)
          | (show wpList _ _ _ _ _ (World.drewN _ _); refine wl_drewN H.out ?_; intro w4 H1 hle4; (try clear F); clear H; have H := Lib.hid H1; have F := H1.facts; simp only [fxx, ec, iv, facts_tobj, macs, opc] at F; clear H1)
          | (show Code.wp _ _ _ _ (World.drewN _ _); refine cw_drewN H.out ?_; intro w4 H1 hle4; (try clear F); clear H; have H := Lib.hid H1; have F := H1.facts; simp only [fxx, ec, iv, facts_tobj, macs, opc] at F; clear H1)
          | (show wpList _ _ _ _ _ (World.alloc _ _); refine wl_absorb H.out ?_; intro w1 H1 hlt1; (try clear F); clear H; have H := Lib.hid H1; have F := H1.facts; simp only [fxx, ec, iv, facts_tobj, macs, opc] at F; clear H1)
          | (show Code.wp _ _ _ _ (World.alloc _ _); refine cw_absorb H.out ?_; intro w2 H1 hlt2; (try clear F); clear H; have H := Lib.hid H1; have F := H1.facts; simp only [fxx, ec, iv, facts_tobj, macs, opc] at F; clear H1)
          | (show wpList _ _ _ (Oper.mk none (Op.store _ _ _) _ _ _ _ :: _) _ _; (first | refine wl_store H.out 0 rfl rfl rfl (by rfl) (by simp [Act.eval, Value.cells]; rfl) (by kernel_rfl) (by simp) (by simp [Value.oneCell']) ?_ | refine wl_store H.out 1 rfl rfl rfl (by rfl) (by simp [Act.eval, Value.cells]; rfl) (by kernel_rfl) (by simp) (by simp [Value.oneCell']) ?_); intro w3 H1 hle3; (try show wpList _ _ _ _ ⟨_, _⟩ _); simp only [px] at H1; (try clear F); clear H; have H := Lib.hid H1; have F := H1.facts; simp only [fxx, ec, iv, facts_tobj, macs, opc] at F; clear H1))
        exact ⟨⟨k + 1, X', L', A', ad2, c2, hlt, by omega, by go_num, H.out.sub (List.Sublist.refl _) (by intro _ h; simp only [List.mem_cons, List.not_mem_nil, or_false] at h ⊢; first | exact h | (simp [h]; done) | (rcases h with h | h <;> simp [h]; done) | (rcases h with h | h | h <;> simp [h]; done) | (rcases h with h | h | h | h <;> simp [h]; done))⟩, by simp [intOf]; omega⟩
      · have hlt' : k = l.length ∨ k < l.length ∧ k = 50 := by omega
        have H := Lib.hid hS
        (try clear F); have F := H.out.facts; simp only [fxx, ec, iv, facts_tobj, macs, opc] at F
        clear hS hlt
        rcases hlt' with rfl | ⟨hlt, rfl⟩
        all_goals
          go_wp2_with (first
            | (show wpList _ _ _ _ _ (World.drewN _ _); refine wl_drewN H.out ?_; intro w4 H1 hle4; (try clear F); clear H; have H := Lib.hid H1; have F := H1.facts; simp only [fxx, ec, iv, facts_tobj, macs, opc] at F; clear H1)
            | (show Code.wp _ _ _ _ (World.drewN _ _); refine cw_drewN H.out ?_; intro w4 H1 hle4; (try clear F); clear H; have H := Lib.hid H1; have F := H1.facts; simp only [fxx, ec, iv, facts_tobj, macs, opc] at F; clear H1)
            | (show wpList _ _ _ _ _ (World.alloc _ _); refine wl_absorb H.out ?_; intro w1 H1 hlt1; (try clear F); clear H; have H := Lib.hid H1; have F := H1.facts; simp only [fxx, ec, iv, facts_tobj, macs, opc] at F; clear H1)
            | (show Code.wp _ _ _ _ (World.alloc _ _); refine cw_absorb H.out ?_; intro w2 H1 hlt2; (try clear F); clear H; have H := Lib.hid H1; have F := H1.facts; simp only [fxx, ec, iv, facts_tobj, macs, opc] at F; clear H1)
            | (show wpList _ _ _ (Oper.mk none (Op.store _ _ _) _ _ _ _ :: _) _ _; (first | refine wl_store H.out 0 rfl rfl rfl (by rfl) (by simp [Act.eval, Value.cells]; rfl) (by kernel_rfl) (by simp) (by simp [Value.oneCell']) ?_ | refine wl_store H.out 1 rfl rfl rfl (by rfl) (by simp [Act.eval, Value.cells]; rfl) (by kernel_rfl) (by simp) (by simp [Value.oneCell']) ?_); intro w3 H1 hle3; (try show wpList _ _ _ _ ⟨_, _⟩ _); simp only [px] at H1; (try clear F); clear H; have H := Lib.hid H1; have F := H1.facts; simp only [fxx, ec, iv, facts_tobj, macs, opc] at F; clear H1))
          go_ret
          exact ⟨rfl, H.out.below'⟩
  · go_enter Try.func7, Try.ntmps7
    go_wp2_with (first
      | (show wpList _ _ _ _ _ (World.drewN _ _); refine wl_drewN H.out ?_; intro w4 H1 hle4; (try clear F); clear H; have H := Lib.hid H1; have F := H1.facts; simp only [fxx, ec, iv, facts_tobj, macs, opc] at F; clear H1)
      | (show Code.wp _ _ _ _ (World.drewN _ _); refine cw_drewN H.out ?_; intro w4 H1 hle4; (try clear F); clear H; have H := Lib.hid H1; have F := H1.facts; simp only [fxx, ec, iv, facts_tobj, macs, opc] at F; clear H1)
      | (show wpList _ _ _ _ _ (World.alloc _ _); refine wl_absorb H.out ?_; intro w1 H1 hlt1; (try clear F); clear H; have H := Lib.hid H1; have F := H1.facts; simp only [fxx, ec, iv, facts_tobj, macs, opc] at F; clear H1)
      | (show Code.wp _ _ _ _ (World.alloc _ _); refine cw_absorb H.out ?_; intro w2 H1 hlt2; (try clear F); clear H; have H := Lib.hid H1; have F := H1.facts; simp only [fxx, ec, iv, facts_tobj, macs, opc] at F; clear H1)
      | (show wpList _ _ _ (Oper.mk none (Op.store _ _ _) _ _ _ _ :: _) _ _; (first | refine wl_store H.out 0 rfl rfl rfl (by rfl) (by simp [Act.eval, Value.cells]; rfl) (by kernel_rfl) (by simp) (by simp [Value.oneCell']) ?_ | refine wl_store H.out 1 rfl rfl rfl (by rfl) (by simp [Act.eval, Value.cells]; rfl) (by kernel_rfl) (by simp) (by simp [Value.oneCell']) ?_ | refine wl_store H.out 2 rfl rfl rfl (by rfl) (by simp [Act.eval, Value.cells]; rfl) (by kernel_rfl) (by simp) (by simp [Value.oneCell']) ?_); intro w3 H1 hle3; (try show wpList _ _ _ _ ⟨_, _⟩ _); simp only [px] at H1; (try clear F); clear H; have H := Lib.hid H1; have F := H1.facts; simp only [fxx, ec, iv, facts_tobj, macs, opc] at F; clear H1)
      | (go_at_call 23; refine (new_bad s hs _).mono ?_; rintro e w5 ⟨rfl, he⟩; rw [he]; clear he w5)
      | (go_at_call 24; refine (rnew_bad s hs _).mono ?_; rintro e w5 ⟨rfl, hb⟩; have H1 := H.out.same hb; clear hb; (try clear F); clear H; have H := Lib.hid H1; have F := H1.facts; simp only [fxx, ec, iv, facts_tobj, macs, opc] at F; clear H1)
      | (go_at_call 10; refine (HAwk.out _).mono ?_; rintro e w6 ⟨rfl, hb⟩; have H1 := H.out.same hb; clear hb; (try clear F); clear H; have H := Lib.hid H1; have F := H1.facts; simp only [fxx, ec, iv, facts_tobj, macs, opc] at F; clear H1))
    go_ret
    exact ⟨rfl, H.out.below'⟩
end Go.Proofs.Ytkifagflnpkkaaa
