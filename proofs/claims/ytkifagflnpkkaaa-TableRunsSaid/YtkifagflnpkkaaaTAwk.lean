/- The law's own: mac, awake. -/
import Derived.Test.YtkifagflnpkkaaaRefA
namespace Go.Proofs.Ytkifagflnpkkaaa
set_option linter.unusedSimpArgs false
set_option linter.unusedVariables false
open Go.RowKit
set_option maxRecDepth 10000

def mac6 (n : UInt8) : Mac := ⟨2, 0, 0, 0, 0, n⟩
theorem results_mac {fn : Func} {tmps : Array Value} {W : World} {B : Nat} {m : Mac} {t : TypeId} {fr : Nat × Nat} {p : Tmp} (hb : W.heap[B]? = some (.cells #[bv m.a, bv m.b, bv m.c, bv m.d, bv m.e, bv m.f] t fr))
    (h : fn.results = #[.cell p 38]) (hp : tmps.getD p undef = .pointer (some ⟨B, 0, none⟩)) : (results fn tmps).run Try.prog W = .ok m.v W := by
  exact results_cell_row (P := Try.prog) h tmps W B t _ fr (.array 6 5) hp hb (by kernel_rfl) rfl (by kernel_rfl)
theorem mac_any (n : UInt8) (w : World) : Calls Try.prog 19 #[bv n] w fun e w' => e = .returned (mac6 n).v ∧ Below w.heap.size w w' := by
  unfold bv
  go_enter Try.func19, Try.ntmps19
  go_wp2
  exact bodyPost_ret (results_mac (heap_alloc_new w _) rfl rfl) rfl ⟨rfl, (Below.refl _ _).alloc (Nat.le_refl _) _⟩
def e5 : EntL := ⟨5, mac6 1, 0⟩
def M5 : Value := (mac6 1).v
def E5 : Array Value := (ec e5).toArray
theorem build_e5 : Try.prog.built 40 [(0, .int .i64 5), (1, M5)] = some E5 := by kernel_rfl
theorem wpList_build_to {P : Program} {ops : Array Oper} {rest : List Oper} {o : Oper} {a : Act} {w : World} {Q : Exit → Act → World → Prop} (hg : o.guard = none) (t : TypeId) (parts : Array (Nat × Operand)) (ho : o.op = .build t parts) {cells : Array Value}
    (hf : P.built t (parts.map fun (i, x) => (i, a.eval x)).toList = some cells)
    (h : wpList P ops Q rest (a.put o.dst (.agg cells)) w) : wpList P ops Q (o :: rest) a w := by
  refine wpList_build hg t parts ho (by rw [hf]; rfl) ?_
  rw [hf]
  exact h
theorem wpList_build_e5 {ops : Array Oper} {rest : List Oper} {o : Oper} {act : Act} {w : World} {Q : Exit → Act → World → Prop} (hg : o.guard = none) (x y : Operand) (ho : o.op = .build 40 #[(0, x), (1, y)])
    (hx : act.eval x = .int .i64 5) (hy : act.eval y = M5) (h : wpList Try.prog ops Q rest (act.put o.dst (.agg E5)) w) : wpList Try.prog ops Q (o :: rest) act w := by
  refine wpList_build_to hg _ _ ho ?_ h
  simp only [List.map_toArray, List.map_cons, List.map_nil, hx, hy]
  exact build_e5
theorem IsInts.one {w : World} {B : Nat} {n : Int} {t : TypeId} {fr : Nat × Nat} (h : w.heap[B]? = some (.cells #[.int .i64 n] t fr)) : IsInts w (.slice (some ⟨B, 0, none⟩) 1 1) [n] :=
  .inr ⟨B, 1, rfl, Nat.le_refl _, by decide, fun i m hm => by
    rcases i with _ | i
    · simp only [List.getElem?_cons_zero, Option.some.injEq] at hm; subst hm
      rw [cell_of_row w B 0 _ _ _ h]; rfl
    · simp at hm⟩
theorem below_drewN {B : Nat} {a w : World} (h : Below B a w) (q : Nat) : Below B a (w.drewN q) := h.trans ⟨rfl, rfl, rfl, Nat.le_refl _, fun _ _ => rfl⟩

set_option maxHeartbeats 4000000 in
theorem awake_true (w : World) : Calls Try.prog 10 #[] w fun e w' => e = .returned (.bool true) ∧ Below w.heap.size w w' := by
  have HM5 : Hid (∀ w, Calls Try.prog 19 #[.int .u8 1] w fun e w' => e = .returned M5 ∧ Below w.heap.size w w') := fun w => mac_any 1 w
  have HN : Hid (Calls Try.prog 23 #[.int .i64 4] w _) := new_yes 4 (by omega) (by omega) w
  go_enter Try.func10, Try.ntmps10
  go_wp2_with (first
    | (have x := H9.out; clear x; go_at_call 15; refine H9.out.mono ?_; rintro e w10 ⟨rfl, hb⟩
       have HB10 := Lib.hid (HB9.out.trans (hb.mono HB9.out.size)); clear hb)
    | (have x := H8.out; clear x; go_at_call 17; refine H8.out.mono ?_; rintro e w9 ⟨rfl, q9, rfl⟩
       have HB9 : Hid (Below w.heap.size w _) := below_drewN ((HB8.out.alloc HB8.out.size (.cells #[.int .i64 5] 3))) q9
       have H9 := Lib.hid (len_any T 4 [e5] _ _ (tab_below HT3.out (below_drewN ((HB38.out.alloc HB38.out.size (.cells #[.int .i64 5] 3))) q9)))
       clear H8)
    | (have x := H7.out; clear x; go_at_call 17; refine H7.out.mono ?_; rintro e w8 ⟨rfl, q8, hq8⟩
       have HB38 : Hid (Below w3.heap.size w3 w8) := by rw [hq8]; exact below_drewN ((HB37.out.alloc HB37.out.size _)) q8
       have HB8 : Hid (Below w.heap.size w w8) := HB3.out.trans (HB38.out.mono HB3.out.size)
       have HI8 : Hid (IsInts w8 v7 [5]) := by
         rw [hq8]; exact HI7.out.below (below_drewN ((Below.refl _ _).alloc (Nat.le_refl _) _) q8)
       have H8 := Lib.hid (sameints_yes v7 (.slice (some ⟨w8.heap.size, 0, none⟩) 1 1) [5] _ (HI8.out.below ((Below.refl _ _).alloc (Nat.le_refl _) _)) (IsInts.one (heap_alloc_new w8 (.cells #[.int .i64 5] 3))) (by decide))
       clear hq8 H7)
    | (have x := H6.out; clear x; go_at_call 18; refine H6.out.mono ?_; rintro e w7 ⟨v7, rfl, hb, ho⟩
       have HB37 : Hid (Below w3.heap.size w3 w7) := HB36.out.trans (hb.mono HB36.out.size)
       have HI7 : Hid (IsInts w7 v7 [5]) := own_ints ho
       have H7 := Lib.hid (sameints_yes v6 (.slice (some ⟨w7.heap.size, 0, none⟩) 1 1) [5] _ ((HI6.out.below hb).below ((Below.refl _ _).alloc (Nat.le_refl _) _)) (IsInts.one (heap_alloc_new w7 (.cells #[.int .i64 5] 3))) (by decide))
       clear hb ho H6)
    | (have x := H5.out; clear x; go_at_call 14; refine H5.out.mono ?_; rintro e w6 ⟨v6, rfl, hb, ho⟩
       have HB36 : Hid (Below w3.heap.size w3 w6) := HB35.out.trans (hb.mono HB35.out.size)
       have HI6 : Hid (IsInts w6 v6 [5]) := own_ints ho
       have H6 := Lib.hid (idle_any T 4 [e5] _ 1 (by omega) 10 10 (by omega) (by omega) w6 (tab_below HT3.out HB36.out))
       clear hb ho H5)
    | (have x := H3.out; clear x; go_at_call 19; refine (HM5.out _).mono ?_; rintro e w5 ⟨rfl, hb⟩
       have HB35 := Lib.hid hb
       have H5 : Hid (Calls Try.prog 14 #[.pointer (some ⟨T, 0, none⟩), M5] w5 _) := of_mac T 4 [e5] _ (mac6 1) w5 (tab_below HT3.out HB35.out)
       clear hb)
    | (have x := H3.out; clear x; go_at_call 12; refine H3.out.mono ?_; rintro e w4 ⟨rfl, hw⟩; cases hw)
    | (have x := HP.out; clear x; go_at_call 22; refine HP.out.mono ?_; rintro e w3 ⟨rfl, ht, hk⟩
       have HT3 := Lib.hid ht
       have HB3 : Hid (Below w.heap.size w w3) := kept_above HB2.out hk (fun k h => h.1)
       have H3 : Hid (Calls Try.prog 12 #[.pointer (some ⟨T, 0, none⟩), .int .i64 5] w3 fun e w' => e = .returned (.tuple #[.int .i64 1, .int .i64 0]) ∧ w' = w3) := by
         obtain ⟨S, hc, _⟩ := tab_len ht
         exact shard_any T S 4 5 w3 (tab_none ht) hc (by omega) (by omega)
       clear ht hk)
    | (have x := HT1.out; clear x; go_at_call 19; refine (HM5.out _).mono ?_; rintro e w2 ⟨rfl, hb⟩
       have HB2 := Lib.hid (HB1.out.trans (hb.mono HB1.out.size))
       have HP : Hid (Calls Try.prog 22 #[.pointer (some ⟨T, 0, none⟩), .agg E5] w2 _) := put_new T 4 [] _ e5 (by decide) rfl w2 (tab_below HT1.out hb)
       clear hb)
    | (show wpList _ _ _ (Oper.mk _ (Op.build _ _) _ _ _ _ :: _) _ _; refine wpList_build_e5 rfl _ _ rfl rfl rfl ?_)
    | (go_at_call 23; refine HN.out.mono ?_; rintro e w1 ⟨T, rfl, hTl, hb, ht⟩
       have HT1 := Lib.hid ht
       have HB1 := Lib.hid hb
       clear hb ht hTl))
  exact bodyPost_ret (v := .bool true) (by simp [results, Try.results10, go_sem]) rfl ⟨rfl, HB10.out⟩
end Go.Proofs.Ytkifagflnpkkaaa
