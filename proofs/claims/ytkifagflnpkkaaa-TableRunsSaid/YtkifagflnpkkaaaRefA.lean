/- The document's: Same, SameInts, Shard, number, New. -/
import Derived.Test.YtkifagflnpkkaaaTabP
namespace Go.Proofs.Ytkifagflnpkkaaa
set_option linter.unusedSimpArgs false
set_option linter.unusedVariables false
open Go.RowKit
set_option maxRecDepth 10000

theorem run_eqIn_ent (x : EntL) (w : World) : (Op.equalIn 10000 40 (.agg (ec x).toArray) (.agg (ec x).toArray)).run Try.prog w = .ok true w := by
  rw [show (10000 : Nat) = 9999 + 1 from rfl, run_equalIn_struct w 9999 _ _ _ (by kernel_rfl) (by kernel_rfl)]
  obtain ⟨f1, f2, f3, h, n1, n2, n3, t1, t2, t3, o1, o2, o3⟩ : ∃ f1 f2 f3, (Try.prog.fieldsOf 40).toList = [f1, f2, f3] ∧ f1.name ≠ "_" ∧ f2.name ≠ "_" ∧ f3.name ≠ "_" ∧ f1.type = 3 ∧ f2.type = 38 ∧ f3.type = 3 ∧ f1.offset = 0 ∧ f2.offset = 1 ∧ f3.offset = 7 :=
    ⟨_, _, _, rfl, by decide, by decide, by decide, rfl, rfl, rfl, rfl, rfl, rfl⟩
  have p1 : (part 3 (ec x).toArray 0).run Try.prog w = .ok (iv x.id) w := by kernel_rfl
  have p2 : (part 38 (ec x).toArray 1).run Try.prog w = .ok (.agg #[bv x.mac.a, bv x.mac.b, bv x.mac.c, bv x.mac.d, bv x.mac.e, bv x.mac.f]) w := by kernel_rfl
  have p3 : (part 3 (ec x).toArray 7).run Try.prog w = .ok (iv x.seen) w := by kernel_rfl
  have hi : Try.prog.underlying 3 = some (.int .i64) := by kernel_rfl
  have e6 := run_equalIn_six (P := Try.prog) w 9997 38 5 (by kernel_rfl) (by kernel_rfl) (by kernel_rfl) x.mac.a.toNat x.mac.b.toNat x.mac.c.toNat x.mac.d.toNat x.mac.e.toNat x.mac.f.toNat x.mac.a.toNat x.mac.b.toNat x.mac.c.toNat x.mac.d.toNat x.mac.e.toNat x.mac.f.toNat
  simp only [beq_self_eq_true, Bool.and_self] at e6
  have e1 := run_equalIn_int (P := Try.prog) w 9998 3 .i64 .i64 x.id x.id hi
  have e3 := run_equalIn_int (P := Try.prog) w 9998 3 .i64 .i64 x.seen x.seen hi
  simp only [beq_self_eq_true] at e1 e3
  rw [h]
  simp only [Op.eqFields, n1, n2, n3, t1, t2, t3, o1, o2, o3, ne_eq, not_false_eq_true, if_true, Sem.run_bind, p1, p2, p3, Result.andThen_ok, e1, e3, bv, e6, Bool.not_true, Bool.false_eq_true, if_false, Sem.run_pure]
theorem run_eql_ent (x : EntL) (w : World) : (binOp .eql 40 (.agg (ec x).toArray) (.agg (ec x).toArray)).run Try.prog w = .ok (.bool true) w := by
  rw [run_eql_struct, run_eqIn_ent]; rfl
theorem run_neq_ent (x : EntL) (w : World) : (binOp .neq 40 (.agg (ec x).toArray) (.agg (ec x).toArray)).run Try.prog w = .ok (.bool false) w := by
  rw [run_neq_struct, run_eqIn_ent]; rfl

def QRel (n : Nat) (w : World) (i : Value) (wr : World) : Prop := ∃ k : Nat, k ≤ n ∧ i = .int .i64 k ∧ ∃ q, wr = w.drewN q
theorem IsInts.get {w : World} {v : Value} {l : List Int} (h : IsInts w v l) : ∃ ad cap, v = .slice ad l.length cap ∧ ∀ i n, l[i]? = some n → ∃ g, ad = some ⟨g, 0, none⟩ ∧ w.cell? ⟨g, i, none⟩ = some (.int .i64 n) := by
  rcases h with ⟨rfl, rfl⟩ | ⟨g, cap, rfl, _, _, h⟩
  · exact ⟨none, 0, rfl, fun i n h => by simp at h⟩
  · exact ⟨_, cap, rfl, fun i n hn => ⟨g, rfl, h i n hn⟩⟩
theorem IsEnts.get {w : World} {v : Value} {l : List EntL} (h : IsEnts w v l) : ∃ ad cap, v = .slice ad l.length cap ∧ ∀ i x, l[i]? = some x → ∃ g, ad = some ⟨g, 0, none⟩ ∧ w.rangeAt g (i * 8) (ec x) := by
  rcases h with ⟨rfl, rfl⟩ | ⟨g, cap, rfl, _, _, h⟩
  · exact ⟨none, 0, rfl, fun i n h => by simp at h⟩
  · exact ⟨_, cap, rfl, fun i n hn => ⟨g, rfl, h i n hn⟩⟩

theorem sameints_yes (v v' : Value) (l : List Int) (w : World) (h : IsInts w v l) (h' : IsInts w v' l) (hl : l.length ≤ 100000) :
    Calls Try.prog 17 #[v, v'] w fun e w' => e = .returned (.bool true) ∧ ∃ q, w' = w.drewN q := by
  obtain ⟨ad, cap, rfl, hr⟩ := h.get
  obtain ⟨ad', cap', rfl, hr'⟩ := h'.get
  have HR := Lib.hid hr
  have HR' := Lib.hid hr'
  clear h h' hr hr'
  go_enter Try.func17, Try.ntmps17
  go_wp2
  go_loopw [5] (fun i wr => QRel l.length w i wr) (fun i _ => l.length - (intOf i).toNat)
  case atStart => exact ⟨0, Nat.zero_le _, rfl, 0, rfl⟩
  case round =>
    obtain ⟨k, hk, rfl, q, rfl⟩ := hrel
    by_cases hlt : k < l.length
    · obtain ⟨g, rfl, hc⟩ := HR.out k _ (List.getElem?_eq_getElem hlt)
      obtain ⟨g', rfl, hc'⟩ := HR'.out k _ (List.getElem?_eq_getElem hlt)
      generalize l[k]'hlt = z at *
      have hlt' : (k : Int) < l.length := by omega
      go_wp2
      go_quiet (fail)
      go_wp2
      exact ⟨⟨k + 1, hlt, by go_num, _, rfl⟩, by simp [intOf]; omega⟩
    · obtain rfl : k = l.length := by omega
      go_wp2
      exact bodyPost_ret (v := .bool true) (by simp [results, Try.results17, go_sem]) rfl ⟨rfl, _, rfl⟩

def BRel (n : Nat) (w : World) (i : Value) (wr : World) : Prop := ∃ k : Nat, k ≤ n ∧ i = .int .i64 k ∧ Below w.heap.size w wr
theorem same_yes (v v' : Value) (l : List EntL) (w : World) (h : IsEnts w v l) (h' : IsEnts w v' l) (hl : l.length ≤ 100000) :
    Calls Try.prog 16 #[v, v'] w fun e w' => e = .returned (.bool true) ∧ Below w.heap.size w w' := by
  obtain ⟨ad, cap, rfl, hr⟩ := h.get
  obtain ⟨ad', cap', rfl, hr'⟩ := h'.get
  have HR := Lib.hid hr
  have HR' := Lib.hid hr'
  clear h h' hr hr'
  go_enter Try.func16, Try.ntmps16
  go_wp2
  go_loopw [5] (fun i wr => BRel l.length w i wr) (fun i _ => l.length - (intOf i).toNat)
  case atStart => exact ⟨0, Nat.zero_le _, rfl, Below.refl _ _⟩
  case round =>
    obtain ⟨k, hk, rfl, hb⟩ := hrel
    have HB := Lib.hid hb
    clear hb
    by_cases hlt : k < l.length
    · obtain ⟨g, rfl, hc⟩ := HR.out k _ (List.getElem?_eq_getElem hlt)
      obtain ⟨g', rfl, hc'⟩ := HR'.out k _ (List.getElem?_eq_getElem hlt)
      generalize l[k]'hlt = z at *
      have hlt' : (k : Int) < l.length := by omega
      have HBd : Hid (Below w.heap.size w wr.drew) := HB.out.trans ⟨rfl, rfl, rfl, Nat.le_refl _, fun _ _ => rfl⟩
      have HC : Hid (∀ W, Sn w.heap.size wr.drew W → W.rangeAt g (k * 8) (ec z)) := fun W hW j v hv => cell_below (hc j v hv) (HBd.out.trans hW)
      have HC' : Hid (∀ W, Sn w.heap.size wr.drew W → W.rangeAt g' (k * 8) (ec z)) := fun W hW j v hv => cell_below (hc' j v hv) (HBd.out.trans hW)
      obtain ⟨E, hE⟩ : ∃ E, E = (ec z).toArray := ⟨_, rfl⟩
      have HE := Lib.hid hE
      have hne : ∀ W, (binOp .neq 40 (.agg E) (.agg E)).run Try.prog W = .ok (.bool false) W := fun W => by rw [hE]; exact run_neq_ent z W
      clear hc hc' hE
      go_wp2
      refine rn_begin w.heap.size (by kernel_rfl) ?_
      refine rn_take (i := 0) rfl (by kernel_rfl) (by kernel_rfl) (by kernel_rfl) (fun _ _ _ h => h) (by rfl) (v := .slice (some ⟨g, 0, none⟩) l.length cap) (by intro W _; go_simp) ?_
      simp only [Act.put, List.setIfInBounds_toArray, List.set_cons_zero, List.set_cons_succ]
      refine rn_take (i := 1) rfl (by kernel_rfl) (by kernel_rfl) (by kernel_rfl) (fun _ _ _ h => h) (by rfl) (v := .int .i64 k) (by intro W _; go_simp) ?_
      simp only [Act.put, List.setIfInBounds_toArray, List.set_cons_zero, List.set_cons_succ]
      refine rn_take (i := 2) rfl (by kernel_rfl) (by kernel_rfl) (by kernel_rfl) (fun _ _ _ h => h) (by rfl) (v := .pointer (some ⟨g, k * 8, none⟩)) (by intro W _; go_simp) ?_
      simp only [Act.put, List.setIfInBounds_toArray, List.set_cons_zero, List.set_cons_succ]
      refine rn_take (i := 3) rfl (by kernel_rfl) (by kernel_rfl) (by kernel_rfl) (fun _ _ _ h => h) (by rfl) (v := .agg E) (fun W hW => by rw [HE.out]; exact exec_load_ent' rfl (by rfl) (HC.out W hW)) ?_
      simp only [Act.put, List.setIfInBounds_toArray, List.set_cons_zero, List.set_cons_succ]
      refine rn_take (i := 4) rfl (by kernel_rfl) (by kernel_rfl) (by kernel_rfl) (fun _ _ _ h => h) (by rfl) (v := .slice (some ⟨g', 0, none⟩) l.length cap') (by intro W _; go_simp) ?_
      simp only [Act.put, List.setIfInBounds_toArray, List.set_cons_zero, List.set_cons_succ]
      refine rn_take (i := 5) rfl (by kernel_rfl) (by kernel_rfl) (by kernel_rfl) (fun _ _ _ h => h) (by rfl) (v := .int .i64 k) (by intro W _; go_simp) ?_
      simp only [Act.put, List.setIfInBounds_toArray, List.set_cons_zero, List.set_cons_succ]
      refine rn_take (i := 6) rfl (by kernel_rfl) (by kernel_rfl) (by kernel_rfl) (fun _ _ _ h => h) (by rfl) (v := .pointer (some ⟨g', k * 8, none⟩)) (by intro W _; go_simp) ?_
      simp only [Act.put, List.setIfInBounds_toArray, List.set_cons_zero, List.set_cons_succ]
      refine rn_take (i := 7) rfl (by kernel_rfl) (by kernel_rfl) (by kernel_rfl) (fun _ _ _ h => h) (by rfl) (v := .agg E) (fun W hW => by rw [HE.out]; exact exec_load_ent' rfl (by rfl) (HC'.out W hW)) ?_
      simp only [Act.put, List.setIfInBounds_toArray, List.set_cons_zero, List.set_cons_succ]
      refine rn_take (i := 8) rfl (by kernel_rfl) (by kernel_rfl) (by kernel_rfl) (fun _ _ _ h => h) (by rfl) (v := .bool false) (by intro W _; go_simp) ?_
      simp only [Act.put, List.setIfInBounds_toArray, List.set_cons_zero, List.set_cons_succ]
      refine rn_done (by kernel_rfl) ?_
      go_wp2
      exact ⟨⟨k + 1, hlt, by go_num, HBd.out⟩, by simp [intOf]; omega⟩
    · obtain rfl : k = l.length := by omega
      go_wp2
      exact bodyPost_ret (v := .bool true) (by simp [results, Try.results16, go_sem]) rfl ⟨rfl, HB.out⟩
end Go.Proofs.Ytkifagflnpkkaaa
