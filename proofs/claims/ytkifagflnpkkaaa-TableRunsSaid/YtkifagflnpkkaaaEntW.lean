/- Walking over entries: loads, stores, results; a row's get. -/
import Derived.Test.YtkifagflnpkkaaaTabN
import Derived.Laws.ResultCell
namespace Go.Proofs.Ytkifagflnpkkaaa
set_option linter.unusedSimpArgs false
set_option linter.unusedVariables false
open Go.RowKit
set_option maxRecDepth 10000

/-- v is a slice of the entries l, readable in w -/
def IsEnts (w : World) (v : Value) (l : List EntL) : Prop :=
  (v = .slice none 0 0 ∧ l = []) ∨ ∃ g cap, v = .slice (some ⟨g, 0, none⟩) l.length cap ∧ l.length ≤ cap ∧ cap ≤ maxLen ∧ ∀ i x, l[i]? = some x → w.rangeAt g (i * 8) (ec x)
theorem ecs_get : ∀ (l : List EntL) (i : Nat) (x : EntL) (j : Nat) (v : Value), l[i]? = some x → (ec x)[j]? = some v → (ecs l)[i * 8 + j]? = some v
  | [], i, x, j, v, h, _ => by simp at h
  | y :: l, 0, x, j, v, h, hv => by
    simp only [List.getElem?_cons_zero, Option.some.injEq] at h
    subst h
    have hj : j < (ec y).length := (List.getElem?_eq_some_iff.1 hv).1
    unfold ecs
    simp only [List.map_cons, List.flatten_cons, Nat.zero_mul, Nat.zero_add]
    rw [List.getElem?_append_left hj]; exact hv
  | y :: l, i + 1, x, j, v, h, hv => by
    have ih := ecs_get l i x j v (by simpa using h) hv
    unfold ecs at *
    simp only [List.map_cons, List.flatten_cons]
    rw [List.getElem?_append_right (by rw [ec_len]; omega), ec_len, show (i + 1) * 8 + j - 8 = i * 8 + j by omega]
    exact ih
theorem own_ents {w : World} {base : Nat} {v : Value} {n : Nat} {l : List EntL} (h : w.ownsRow base 40 8 v n (ecs l)) : IsEnts w v l := by
  have hl : l.length = n := by have := h.1; rw [ecs_len] at this; omega
  rcases h.2 with ⟨rfl, rfl⟩ | ⟨g, cap, cur, rfl, -, hg, hnc, hcm, hcs, htk⟩
  · exact .inl ⟨rfl, List.eq_nil_of_length_eq_zero hl⟩
  · refine .inr ⟨g, cap, by rw [hl], by omega, hcm, fun i x hx j u hu => ?_⟩
    have := row_read (w := w) hg htk 0 0 rfl (i * 8 + j) u (by simpa using ecs_get l i x j u hx hu)
    rwa [show (⟨g, 0, none⟩ : Addr).add (i * 8 + j) = ⟨g, i * 8 + j, none⟩ by unfold Addr.add; split <;> simp_all] at this
theorem IsEnts.kept {w w' : World} {S : Nat → Prop} {v : Value} {l : List EntL} (h : IsEnts w v l) (hk : Kept w w' S) (hn : ∀ g, v.ownBlock = some g → ¬ S g) : IsEnts w' v l := by
  rcases h with h | ⟨g, cap, rfl, h1, h2, h3⟩
  · exact .inl h
  · refine .inr ⟨g, cap, rfl, h1, h2, fun i x hx j u hu => ?_⟩
    have := h3 i x hx j u hu
    have hlt := World.block_lt_of_cell? w _ this
    exact (World.cell?_of_block (hk.block g hlt (hn g rfl))).trans this
theorem IsEnts.below {w w' : World} {v : Value} {l : List EntL} (h : IsEnts w v l) (hb : Below w.heap.size w w') : IsEnts w' v l := h.kept (kept_below hb (fun _ => False)) (fun _ _ h => h)
theorem IsInts.kept {w w' : World} {S : Nat → Prop} {v : Value} {l : List Int} (h : IsInts w v l) (hk : Kept w w' S) (hn : ∀ g, v.ownBlock = some g → ¬ S g) : IsInts w' v l := by
  rcases h with h | ⟨g, cap, rfl, h1, h2, h3⟩
  · exact .inl h
  · refine .inr ⟨g, cap, rfl, h1, h2, fun i x hx => ?_⟩
    have := h3 i x hx
    have hlt := World.block_lt_of_cell? w _ this
    exact (World.cell?_of_block (hk.block g hlt (hn g rfl))).trans this
theorem IsInts.below {w w' : World} {v : Value} {l : List Int} (h : IsInts w v l) (hb : Below w.heap.size w w') : IsInts w' v l := h.kept (kept_below hb (fun _ => False)) (fun _ _ h => h)
theorem ent_block {w : World} {B : Nat} {x : EntL} {t : TypeId} {fr : Nat × Nat} (hb : w.heap[B]? = some (.cells (ec x).toArray t fr)) : w.rangeAt B 0 (ec x) := by
  intro j v hv
  rw [Nat.zero_add, cell_of_row w B j _ _ _ hb]; simpa using hv

theorem run_load_ent {w : World} {g o : Nat} {x : EntL} (hc : w.rangeAt g o (ec x)) : (Instr.loadAt 40 (.pointer (some ⟨g, o, none⟩))).run Try.prog w = .ok (.agg (ec x).toArray) w := by
  obtain ⟨d, hu, hd⟩ : ∃ d, Try.prog.underlying 40 = some d ∧ d.isRow = true := by
    have : (Try.prog.underlying 40).map (·.isRow) = some true := by kernel_rfl
    cases h : Try.prog.underlying 40 with
    | none => simp [h] at this
    | some d => simp [h] at this; exact ⟨d, rfl, this⟩
  exact run_loadAt_mid (P := Try.prog) w g o _ _ d hc hu hd (by rw [ec_len]; kernel_rfl)
theorem wpList_load_ent {ops : Array Oper} {rest : List Oper} {op : Oper} {a : Act} {w : World} {Q : Exit → Act → World → Prop} (hgd : op.guard = none) (x : Operand) (ho : op.op = .load 40 x)
    {g o : Nat} {e : EntL} (hx : a.eval x = .pointer (some ⟨g, o, none⟩)) (hc : w.rangeAt g o (ec e))
    (h : wpList Try.prog ops Q rest (a.put op.dst (.agg (ec e).toArray)) w) : wpList Try.prog ops Q (op :: rest) a w := by
  have hr := run_load_ent hc
  refine wpList_plain hgd fun K hK => ?_
  unfold Oper.wp execOp
  simp only [ho, hx, hr, Sem.run_bind, Sem.run_pure, Result.andThen_ok]
  exact hK _ _ h
theorem kept_setRow (w : World) (g : Nat) (cs : Array Value) : Kept w (w.setRow g cs) (fun k => k = g) :=
  ⟨rfl, rfl, rfl, by rw [setRow_size]; exact Nat.le_refl _, fun k _ hn => setRow_other w g k cs hn⟩
theorem ec_all (x : EntL) : (ec x).toArray.all (·.oneCell') = true := by simp [ec, Value.oneCell']
theorem wpList_store_ent {ops : Array Oper} {rest : List Oper} {op : Oper} {a : Act} {w : World} {Q : Exit → Act → World → Prop} (hgd : op.guard = none) (x y : Operand) (ho : op.op = .store 40 x y)
    {B : Nat} {e : EntL} {old : Array Value} {t : TypeId} (hx : a.eval x = .pointer (some ⟨B, 0, none⟩)) (hy : a.eval y = .agg (ec e).toArray) (hb : w.heap[B]? = some (.cells old t (0, 0))) (hso : old.size = 8)
    (h : ∀ w1, w1.heap[B]? = some (.cells (ec e).toArray t (0, 0)) → Kept w w1 (fun k => k = B) → w1.heap.size = w.heap.size → wpList Try.prog ops Q rest (a.put op.dst undef) w1) : wpList Try.prog ops Q (op :: rest) a w :=
  wpList_store_row hgd _ x y ho B _ hx hy t old hb (by kernel_rfl) (by rw [hso]; rfl) (ec_all e) (h _ (setRow_heap w B _ _ _ _ hb) (kept_setRow w B _) (setRow_size w B _))
theorem results_ent {fn : Func} {tmps : Array Value} {W : World} {B : Nat} {e : EntL} {t : TypeId} {fr : Nat × Nat} {p q : Tmp} {v : Value} (hb : W.heap[B]? = some (.cells (ec e).toArray t fr))
    (h : fn.results = #[.cell p 40, .tmp q]) (hp : tmps.getD p undef = .pointer (some ⟨B, 0, none⟩)) (hq : tmps.getD q undef = v) :
    (results fn tmps).run Try.prog W = .ok (.tuple #[.agg (ec e).toArray, v]) W := by
  have hl := run_var_block (P := Try.prog) hb 40 (by kernel_rfl) (by kernel_rfl)
  rw [results_cell_tmp h, hp, hq]
  simp only [asAddr, Sem.run_pure, Result.andThen_ok, hl]

/-- what the entry of a number is -/
def getE (L : List EntL) (k : Int) : EntL × Bool := match L.find? (fun e => e.id == k) with | some x => (x, true) | none => (ent0, false)
theorem getE_yes {L : List EntL} {k : Int} {a : Nat} {x : EntL} (hs : L.Pairwise (fun a b => a.id < b.id)) (hx : L[a]? = some x) (hk : x.id = k) : getE L k = (x, true) := by
  unfold getE
  have hm := List.mem_of_getElem? hx
  cases h : L.find? (fun e => e.id == k) with
  | none => have := List.find?_eq_none.1 h x hm; simp [hk] at this
  | some y =>
    have hy : y.id = k := by simpa using List.find?_some h
    have hym := List.mem_of_find?_eq_some h
    have : y = x := by
      obtain ⟨i, hi, rfl⟩ := List.mem_iff_getElem.1 hym
      obtain ⟨hj, rfl⟩ := List.getElem?_eq_some_iff.1 hx
      rcases Nat.lt_trichotomy i a with h | rfl | h
      · have := List.pairwise_iff_getElem.1 hs i a hi hj h; omega
      · rfl
      · have := List.pairwise_iff_getElem.1 hs a i hj hi h; omega
    simp [this]
theorem getE_no {L : List EntL} {k : Int} (h : ∀ x ∈ L, x.id ≠ k) : getE L k = (ent0, false) := by
  unfold getE
  have : L.find? (fun e => e.id == k) = none := List.find?_eq_none.2 (by simpa using h)
  rw [this]

theorem place_there {ks : List Int} {k : Int} {a : Nat} (hs : ks.Pairwise (· < ·)) (hk : k ∈ ks) (hp : PlaceIs ks k a) : ks[a]? = some k := by
  obtain ⟨t, ht, rfl⟩ := List.mem_iff_getElem.1 hk
  have h1 : ¬ t < a := fun h => by have := hp.2.1 t _ h (List.getElem?_eq_getElem ht); omega
  have h2 : ¬ a < t := fun h => by
    have ha : a < ks.length := by omega
    have h3 := hp.2.2 a _ (Nat.le_refl _) (List.getElem?_eq_getElem ha)
    have := List.pairwise_iff_getElem.1 hs a t ha ht h
    omega
  obtain rfl : a = t := by omega
  exact List.getElem?_eq_getElem ht
theorem kept_above {B : Nat} {w w1 w2 : World} {S : Nat → Prop} (h : Below B w w1) (hk : Kept w1 w2 S) (hS : ∀ k, S k → B ≤ k) (hB : B ≤ w.heap.size := by exact Nat.le_refl _) : Below B w w2 :=
  ⟨hk.os.trans h.os, hk.tape.trans h.tape, hk.output.trans h.output, Nat.le_trans h.size hk.size, fun k hlt => (hk.block k (Nat.lt_of_lt_of_le hlt (Nat.le_trans hB h.size)) (fun e => by have := hS k e; omega)).trans (h.block k hlt)⟩
abbrev zE : Array Value := #[.int .i64 0, .int .u8 0, .int .u8 0, .int .u8 0, .int .u8 0, .int .u8 0, .int .u8 0, .int .i64 0]
theorem zE_eq : zE = (ec ent0).toArray := rfl

set_option maxHeartbeats 4000000 in
theorem rowget_any (R o : Nat) (kv vv : Value) (us : List EntL) (k : Int) (w : World) (hc : w.cell? ⟨R, o, none⟩ = some kv) (hc1 : w.cell? ⟨R, o + 1, none⟩ = some vv) (hk : IsInts w kv (us.map (·.id))) (hu : IsEnts w vv us)
    (hs : us.Pairwise (fun a b => a.id < b.id)) (hl : us.length ≤ 100000) :
    Calls Try.prog 34 #[.pointer (some ⟨R, o, none⟩), .int .i64 k] w fun e w' => e = .returned (.tuple #[.agg (ec (getE us k).1).toArray, .bool (getE us k).2]) ∧ Below w.heap.size w w' := by
  have hsk : (us.map (·.id)).Pairwise (· < ·) := List.pairwise_map.2 hs
  obtain ⟨w0, hw0⟩ : ∃ w0, w0 = w.alloc (.cells zE 40) := ⟨_, rfl⟩
  have HB0 : Hid (Below w.heap.size w w0) := by rw [hw0]; exact (Below.refl _ _).alloc (Nat.le_refl _) _
  have HZ : Hid (w0.heap[w.heap.size]? = some (.cells zE 40 (0, 0))) := by rw [hw0]; exact heap_alloc_new w _
  have hz0 : w0.heap.size = w.heap.size + 1 := by rw [hw0]; simp
  have HS0 := Lib.hid hz0
  have hc0' : w0.cell? ⟨R, o, none⟩ = some kv := cell_below hc HB0.out
  have hc1' : w0.cell? ⟨R, o + 1, none⟩ = some vv := cell_below hc1 HB0.out
  have HU := Lib.hid (hu.below HB0.out)
  have HW : Hid (w.alloc (.cells zE 40) = w0) := hw0.symm
  by_cases hm : k ∈ us.map (·.id)
  · have HP : Hid (Calls Try.prog 51 #[.pointer (some ⟨R, o, none⟩), .int .i64 k] w0 fun e w' => w' = w0 ∧ ∃ a x, e = .returned (.tuple #[.int .i64 (a : Nat), .bool true]) ∧ us[a]? = some x ∧ x.id = k) := (place_ent R o kv (us.map (·.id)) k w0 hc0' (hk.below HB0.out) hsk (by simp; omega)).mono (by
      rintro e w' ⟨h1, a, h2, h3⟩
      have h4 := place_there hsk hm h3
      rw [h4] at h2
      rw [List.getElem?_map, Option.map_eq_some_iff] at h4
      obtain ⟨x, h5, h6⟩ := h4
      exact ⟨h1, a, x, by simpa using h2, h5, h6⟩)
    have HSS := Lib.hid hs
    clear hc hc1 hk hu hs hsk hl hz0 hc0' hw0 hm
    go_enter Try.func34, Try.ntmps34
    go_wp2_with (first
      | (go_at_call 51; rw [HW.out]; refine HP.out.mono ?_; rintro e w1 ⟨rfl, a, x, rfl, h2, h3⟩
         have hal := (List.getElem?_eq_some_iff.1 h2).1
         obtain ⟨g, cap, rfl, hcap, hcm, hrd⟩ := HU.out.resolve_left (by rintro ⟨_, h⟩; rw [h] at h2; cases h2)
         have HR := Lib.hid (hrd a x h2)
         have HG := Lib.hid (getE_yes HSS.out h2 h3)
         clear h2 h3 hrd)
      | (show wpList _ _ _ (Oper.mk _ (Op.load _ _) _ _ _ _ :: _) _ _; refine wpList_load_ent rfl _ rfl rfl HR.out ?_)
      | (show wpList _ _ _ (Oper.mk none (Op.store _ _ _) _ _ _ _ :: _) _ _
         go_must (refine wpList_store_ent rfl _ _ rfl rfl rfl HZ.out rfl ?_)
         intro w1 hb1 hk1 hs1
         have HC1 := Lib.hid hb1
         have HK1 := Lib.hid hk1
         clear hb1 hk1))
    exact bodyPost_ret (results_ent HC1.out rfl rfl rfl) rfl ⟨by rw [HG.out]; rfl, kept_above HB0.out HK1.out (fun k h => by omega)⟩
  · have HP : Hid (Calls Try.prog 51 #[.pointer (some ⟨R, o, none⟩), .int .i64 k] w0 fun e w' => w' = w0 ∧ ∃ a : Nat, e = .returned (.tuple #[.int .i64 a, .bool false])) := (place_ent R o kv (us.map (·.id)) k w0 hc0' (hk.below HB0.out) hsk (by simp; omega)).mono (by
      rintro e w' ⟨h1, a, h2, h3⟩
      rw [not_there hm a] at h2
      exact ⟨h1, a, h2⟩)
    have HG : Hid (getE us k = (ent0, false)) := getE_no (fun x hx h => hm (List.mem_map.2 ⟨x, hx, h⟩))
    clear hc hc1 hk hu hs hsk hl hz0 hc0' hw0 hm
    go_enter Try.func34, Try.ntmps34
    go_wp2_with (first
      | (go_at_call 51; rw [HW.out]; refine HP.out.mono ?_; rintro e w1 ⟨rfl, a, rfl⟩
         have HR : Hid ((w1.alloc (.cells zE 40)).rangeAt w1.heap.size 0 (ec ent0)) := ent_block (heap_alloc_new w1 _)
         have HZ1 : Hid ((w1.alloc (.cells zE 40)).heap[w.heap.size]? = some (.cells zE 40 (0, 0))) := by rw [heap_alloc_old _ _ (by have := HS0.out; omega)]; exact HZ.out)
      | (show wpList _ _ _ (Oper.mk _ (Op.load _ _) _ _ _ _ :: _) _ _; refine wpList_load_ent rfl _ rfl rfl HR.out ?_)
      | (show wpList _ _ _ (Oper.mk none (Op.store _ _ _) _ _ _ _ :: _) _ _
         go_must (refine wpList_store_ent rfl _ _ rfl rfl rfl HZ1.out rfl ?_)
         intro w2 hb1 hk1 hs1
         have HC1 := Lib.hid hb1
         have HK1 := Lib.hid hk1
         clear hb1 hk1))
    exact bodyPost_ret (results_ent HC1.out rfl rfl rfl) rfl ⟨by rw [HG.out]; rfl, kept_above (HB0.out.alloc HB0.out.size _) HK1.out (fun k h => by omega)⟩
end Go.Proofs.Ytkifagflnpkkaaa
