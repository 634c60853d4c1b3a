/- What a table tells: Len, Idle. -/
import Derived.Test.YtkifagflnpkkaaaTabL
namespace Go.Proofs.Ytkifagflnpkkaaa
set_option linter.unusedSimpArgs false
set_option linter.unusedVariables false
open Go.RowKit
set_option maxRecDepth 10000

theorem IsInts.shape {w : World} {v : Value} {l : List Int} (h : IsInts w v l) : ∃ ad cap, v = .slice ad l.length cap := by
  rcases h with ⟨rfl, rfl⟩ | ⟨g, cap, rfl, _⟩
  · exact ⟨none, 0, rfl⟩
  · exact ⟨_, cap, rfl⟩
theorem own_shape {w : World} {base : Nat} {e : TypeId} {size : Nat} {v : Value} {n : Nat} {xs : List Value} (h : w.ownsRow base e size v n xs) : ∃ ad cap, v = .slice ad n cap := by
  rcases h.2 with ⟨rfl, rfl⟩ | ⟨g, cap, cur, rfl, _⟩
  · exact ⟨none, 0, rfl⟩
  · exact ⟨_, cap, rfl⟩
theorem own_base {w : World} {b b' : Nat} {e : TypeId} {size : Nat} {v : Value} {n : Nat} {xs : List Value} (h : w.ownsRow b e size v n xs) (hb : b' ≤ b) : w.ownsRow b' e size v n xs :=
  ⟨h.1, h.2.imp_right (by rintro ⟨g, cap, cur, h1, h2, h3⟩; exact ⟨g, cap, cur, h1, Nat.le_trans hb h2, h3⟩)⟩
def lenTo (n : Nat) (L : List EntL) (k : Nat) : Nat := (L.filter fun e => decide (e.id.toNat % n < k)).length
theorem lenTo_zero (n : Nat) (L : List EntL) : lenTo n L 0 = 0 := by simp [lenTo]
theorem lenTo_all {n : Nat} (h : 1 ≤ n) (L : List EntL) : lenTo n L n = L.length := by
  unfold lenTo
  rw [List.filter_eq_self.2]
  intro e _
  simp [Nat.mod_lt _ (show n > 0 by omega)]
theorem lenTo_step (n : Nat) (L : List EntL) (k : Nat) : lenTo n L (k + 1) = lenTo n L k + (ofShard n k L).length := by
  unfold lenTo ofShard
  induction L with
  | nil => rfl
  | cons e L ih =>
    simp only [List.filter_cons]
    by_cases h1 : e.id.toNat % n < k
    · rw [if_pos (by simp; omega), if_pos (by simpa using h1), if_neg (by simp; omega)]
      simp only [List.length_cons]; omega
    · by_cases h2 : e.id.toNat % n = k
      · rw [if_pos (by simp; omega), if_neg (by simpa using h1), if_pos (by simpa using h2)]
        simp only [List.length_cons]; omega
      · rw [if_neg (by simp; omega), if_neg (by simpa using h1), if_neg (by simpa using h2)]
        exact ih
theorem lenTo_le (n : Nat) (L : List EntL) (k : Nat) : lenTo n L k ≤ L.length := List.length_filter_le _ L
def LenRel (w : World) (n : Nat) (L : List EntL) (s i : Value) (wr : World) : Prop :=
  ∃ k : Nat, k ≤ n ∧ i = .int .i64 k ∧ s = .int .i64 (lenTo n L k) ∧ Below w.heap.size w wr

set_option maxHeartbeats 4000000 in
theorem len_any (T n : Nat) (L : List EntL) (A : Nat → Prop) (w : World) (h : Tab w T n L A) :
    Calls Try.prog 15 #[.pointer (some ⟨T, 0, none⟩)] w fun e w' => e = .returned (.int .i64 L.length) ∧ Below w.heap.size w w' := by
  have Hn := Lib.hid (tab_none h)
  obtain ⟨S, hc, hr⟩ := tab_row h
  have hg : Good L ∧ 1 ≤ n ∧ n ≤ 64 := by obtain ⟨_, _, _, _, _, _, _, _, _, h1, h2, h3⟩ := h; exact ⟨h3, h1, h2⟩
  obtain ⟨hg, h1, h2⟩ := hg
  have hgl := hg.len
  have HR := Lib.hid hr
  clear h hr
  have hc' := hc
  have HC := Lib.hid hc
  clear hc'
  go_enter Try.func15, Try.ntmps15
  go_wp2_with (first
    | (go_at_call 30; refine (none_any _ _ _ Hn.out).mono ?_; rintro e w1 ⟨rfl, rfl⟩))
  clear hc
  go_loopw [3, 13] (fun s i wr => LenRel w1 n L s i wr) (fun _ i _ => n - (intOf i).toNat)
  case atStart => exact ⟨0, Nat.zero_le _, rfl, by rw [lenTo_zero]; rfl, Below.refl _ _⟩
  case round =>
    obtain ⟨k, hk, rfl, rfl, hb⟩ := hrel
    have HB := Lib.hid hb
    clear hb
    by_cases hlt : k < n
    · obtain ⟨kv, vv, hc1, hc2, hi, ho⟩ := HR.out k hlt
      obtain ⟨ad, cap, rfl⟩ := hi.shape
      obtain ⟨ad2, cap2, rfl⟩ := own_shape ho
      have hc1 := cell_below hc1 HB.out
      have hc2 := cell_below hc2 HB.out
      have hlt' : (k : Int) < n := by omega
      have Hst := Lib.hid (lenTo_step n L k)
      have hle1 := lenTo_le n L (k + 1)
      rw [Hst.out] at hle1
      clear hi ho
      simp only [List.length_map] at hc1
      change wr.cell? _ = some (.slice ad (ofShard n k L).length cap) at hc1
      change wr.cell? _ = some (.slice ad2 (ofShard n k L).length cap2) at hc2
      generalize hq : (ofShard n k L).length = q at *
      generalize hp : lenTo n L k = p at *
      clear hq hp
      go_wp2
      exact ⟨⟨k + 1, hlt, by go_num, by rw [Hst.out]; go_num, HB.out.alloc (by first | exact HB.out.size | exact Nat.le_refl _) _⟩, by simp [intOf]; omega⟩
    · obtain rfl : k = n := by omega
      rw [lenTo_all h1]
      go_wp2
      exact bodyPost_ret (v := .int .i64 L.length) (by simp [results, Try.results15, go_sem]) rfl ⟨rfl, HB.out⟩

/-- the numbers of the entries of l that were not heard since t - u -/
abbrev idles (l : List EntL) (t u : Int) : List Int := (l.filter fun e => decide (e.seen ≤ t - u)).map (·.id)
def IdleRel (w : World) (l : List EntL) (t u : Int) (o i : Value) (wr : World) : Prop :=
  ∃ k : Nat, k ≤ l.length ∧ i = .int .i64 k ∧ Below w.heap.size w wr ∧ wr.ownsRow w.heap.size 3 1 o (idles (l.take k) t u).length ((idles (l.take k) t u).map iv)
set_option maxHeartbeats 4000000 in
theorem idle_any (T n : Nat) (L : List EntL) (A : Nat → Prop) (s : Nat) (hs : s < n) (t u : Int) (ht : 0 ≤ t ∧ t ≤ 1099511627776) (hu : 0 ≤ u ∧ u ≤ 1099511627776) (w : World) (h : Tab w T n L A) :
    Calls Try.prog 18 #[.pointer (some ⟨T, 0, none⟩), .int .i64 s, .int .i64 t, .int .i64 u] w fun e w' => ∃ v, e = .returned (.tuple #[v, .int .i64 0]) ∧ Below w.heap.size w w' ∧
      w'.ownsRow w.heap.size 3 1 v (idles (ofShard n s L) t u).length ((idles (ofShard n s L) t u).map iv) := by
  have HLi := Lib.hid (list_any T n L A s hs w h)
  have hg : Good L := by obtain ⟨_, _, _, _, _, _, _, _, _, h1, h2, h3⟩ := h; exact h3
  have hl : (ofShard n s L).length ≤ 65534 := hg.flen _
  obtain ⟨l, hle⟩ : ∃ l, l = ofShard n s L := ⟨_, rfl⟩
  rw [← hle] at HLi hl
  rw [← hle]
  have HG : Hid (∀ e ∈ l, 0 ≤ e.seen ∧ e.seen ≤ 1099511627776) := fun e he => by rw [hle] at he; have := hg.range e (List.mem_filter.1 he).1; exact this.2.2
  clear hle hg h
  have Ht : Hid (decide (0 ≤ t ∧ t ≤ 1099511627776) = true) := by unfold Hid; simp [ht]
  have Hu : Hid (decide (0 ≤ u ∧ u ≤ 1099511627776) = true) := by unfold Hid; simp [hu]
  go_enter Try.func18, Try.ntmps18
  go_wp2_with (first
    | (go_at_call 36; refine (timed_any _ _).mono ?_; rintro e w2 ⟨rfl, rfl⟩; first | rw [Ht.out] | rw [Hu.out])
    | (go_at_call 11; refine HLi.out.mono ?_; rintro e w1 ⟨v, rfl, hb, ho⟩
       obtain ⟨ad, cap, rfl⟩ := own_shape ho
       have HB1 := Lib.hid hb
       have HO1 := Lib.hid ho
       clear hb ho))
  have hrd : ∀ i x, l[i]? = some x → ∃ g, ad = some ⟨g, 0, none⟩ ∧ w2.rangeAt g (i * 8) (ec x) := by
    rcases own_ents HO1.out with ⟨_, h⟩ | ⟨g, cap', h1, _, _, h4⟩
    · intro i x hx; rw [h] at hx; simp at hx
    · intro i x hx
      injection h1 with h1
      exact ⟨g, h1, h4 i x hx⟩
  have HRD := Lib.hid hrd
  have HLO : Hid (∀ g, (Value.slice ad l.length cap).ownBlock = some g → g < w2.heap.size) := fun g hg => (HO1.out.lt g hg).2
  clear hrd HLi
  go_loopw [12, 34] (fun o i wr => IdleRel w2 l t u o i wr) (fun _ i _ => l.length - (intOf i).toNat)
  case atStart => exact ⟨0, Nat.zero_le _, rfl, Below.refl _ _, rfl, .inl ⟨rfl, rfl⟩⟩
  case round =>
    obtain ⟨k, hk, rfl, hb, ho⟩ := hrel
    have HB := Lib.hid hb
    have HO := Lib.hid ho
    clear hb ho
    by_cases hlt : k < l.length
    · obtain ⟨x, hx⟩ : ∃ x, l[k]? = some x := ⟨_, List.getElem?_eq_getElem hlt⟩
      obtain ⟨g, rfl, hr⟩ := HRD.out k x hx
      have hr0 := hr 0 _ rfl
      have HR : Hid (wr.rangeAt g (k * 8) (ec x)) := fun j v hv => cell_below (hr j v hv) HB.out
      have hxg := HG.out x (List.mem_of_getElem? hx)
      have HT : Hid (l.take (k + 1) = l.take k ++ [x]) := by unfold Hid; rw [List.take_add_one, hx]; rfl
      have hlt' : (k : Int) < l.length := by omega
      obtain ⟨wA, hwA⟩ : ∃ wA, wA = wr.alloc (.cells zE 40) := ⟨_, rfl⟩
      have HW : Hid (wr.alloc (.cells zE 40) = wA) := hwA.symm
      have HZ : Hid (wA.heap[wr.heap.size]? = some (.cells zE 40 (0, 0))) := by rw [hwA]; exact heap_alloc_new wr _
      have HKA : Hid (Kept wr wA (fun _ => False)) := by rw [hwA]; exact kept_alloc wr _
      clear hx hr hr0 hwA
      have hnb : ∀ g, u12.ownBlock = some g → g < wr.heap.size := fun g hg => (HO.out.lt g hg).2
      have HNB := Lib.hid hnb
      clear hnb
      by_cases hc : x.seen ≤ t - u
      · have HI : Hid (idles (l.take (k + 1)) t u = idles (l.take k) t u ++ [x.id]) := by unfold Hid idles; rw [HT.out]; simp [hc]
        have hlen : (idles (l.take k) t u).length ≤ k := by unfold idles; rw [List.length_map]; exact Nat.le_trans (List.length_filter_le _ _) (by rw [List.length_take]; omega)
        go_wp2_with (first
          | (show wpList _ _ _ (Oper.mk _ (Op.load 40 _) _ _ _ _ :: _) _ _; refine wpList_load_ent rfl _ rfl rfl HR.out ?_)
          | (show wpList _ _ _ (Oper.mk none (Op.store 40 _ _) _ _ _ _ :: _) _ _
             rw [HW.out]
             go_must (refine wpList_store_ent rfl _ _ rfl rfl rfl HZ.out rfl ?_)
             intro w3 hb1 hk1 hs1
             have hA := ent_block hb1 7 _ rfl
             have hB := ent_block hb1 0 _ rfl
             rw [Nat.zero_add] at hA hB
             have HK1 := Lib.hid (HKA.out.trans hk1)
             have HO3 := Lib.hid (own_kept HO.out HK1.out (fun g hg h => by have := HNB.out g hg; rcases h with h | h; exact h; omega))
             have HB3 : Hid (Below w2.heap.size w2 w3) := kept_above HB.out HK1.out (by have := HB.out.size; rintro b (h | h); exact h.elim; omega)
             have HO4 : Hid ((w3.alloc (.cells #[iv x.id] 3)).ownsRow w2.heap.size 3 1 u12 _ _) := own_kept HO3.out (kept_alloc w3 _) (fun _ _ h => h)
             have HS4 := Lib.hid (src_block (fr := (0, 0)) 1 1 1 (heap_alloc_new w3 (.cells #[iv x.id] 3)) (by rfl) (by simp [Value.oneCell']))
             clear hb1 hk1 hs1 HZ)
          | (have y := HO4.out; clear y; at_builtin
             go_must (refine wpList_append_from rfl _ _ _ rfl w2.heap.size el_int rfl HO4.out rfl HS4.out (by omega) (by have := HB3.out.size; simp only [World.size_alloc]; omega) ?_)
             intro v5 w5 ho5 hg5 hb5
             have HO5 := Lib.hid ho5
             have HB5 : Hid (Below w2.heap.size w2 w5) := (HB3.out.alloc HB3.out.size _).trans hb5
             clear ho5 hg5 hb5))
        exact ⟨⟨k + 1, hlt, by go_num, HB5.out, by rw [HI.out, List.length_append, List.map_append]; exact HO5.out⟩, by simp [intOf]; omega⟩
      · have HI : Hid (idles (l.take (k + 1)) t u = idles (l.take k) t u) := by unfold Hid idles; rw [HT.out]; simp [hc]
        go_wp2_with (first
          | (show wpList _ _ _ (Oper.mk _ (Op.load 40 _) _ _ _ _ :: _) _ _; refine wpList_load_ent rfl _ rfl rfl HR.out ?_)
          | (show wpList _ _ _ (Oper.mk none (Op.store 40 _ _) _ _ _ _ :: _) _ _
             rw [HW.out]
             go_must (refine wpList_store_ent rfl _ _ rfl rfl rfl HZ.out rfl ?_)
             intro w3 hb1 hk1 hs1
             have hA := ent_block hb1 7 _ rfl
             have hB := ent_block hb1 0 _ rfl
             rw [Nat.zero_add] at hA hB
             have HK1 := Lib.hid (HKA.out.trans hk1)
             have HO3 := Lib.hid (own_kept HO.out HK1.out (fun g hg h => by have := HNB.out g hg; rcases h with h | h; exact h; omega))
             have HB3 : Hid (Below w2.heap.size w2 w3) := kept_above HB.out HK1.out (by have := HB.out.size; rintro b (h | h); exact h.elim; omega)
             clear hb1 hk1 hs1 HZ))
        exact ⟨⟨k + 1, hlt, by go_num, HB3.out, by rw [HI.out]; exact HO3.out⟩, by simp [intOf]; omega⟩
    · obtain rfl : k = l.length := by omega
      rw [List.take_length] at HO
      go_wp2
      exact bodyPost_ret (v := .tuple #[u12, .int .i64 0]) (by simp [results, Try.results18, go_sem]) rfl ⟨u12, rfl, HB1.out.trans (HB.out.mono HB1.out.size), own_base HO.out HB1.out.size⟩
end Go.Proofs.Ytkifagflnpkkaaa
