/- The client's tags, the reference's. -/
import Derived.Test.YtokiedeiamlnlaaGreatCl3
import Derived.Lib.ConvBytes
namespace Go.Proofs.YtokiedeiamlnlaaGreat
set_option linter.unusedSimpArgs false
set_option linter.unusedVariables false
open Go.RowKit
set_option maxRecDepth 10000

theorem conv_bytes (s : ByteArray) (hs : s.size ≤ 140737488355328) (w : World) : ∃ a c w', (convert 9 24 (.string s)).run Tryz.prog w = .ok (.slice a s.size c) w' ∧ Below w.heap.size w w' ∧ IsBytes w' (.slice a s.size c) s.data.toList := by
  refine ⟨_, _, _, Lib.run_convert_string_bytes w 9 24 5 s (u := .string) (by kernel_rfl) (by kernel_rfl) (by kernel_rfl), ?_, ?_⟩
  · refine ⟨rfl, rfl, rfl, ?_, fun k hk => Lib.bytesWorld_at_old w _ s k hk⟩
    rw [Lib.bytesWorld_size]; omega
  · have hl : s.data.toList.length = s.size := by rw [Array.length_toList]; rfl
    rw [← hl]
    refine .inr ⟨_, _, rfl, ?_, ?_, ?_⟩
    · rw [hl]; exact grownCap_ge w s.size 0 _
    · rw [hl]; exact grownCap_le_maxLen w s.size 0 _ (by unfold maxLen; omega)
    · intro i hi
      have : (⟨w.heap.size, 0, none⟩ : Addr).add i = ⟨w.heap.size, i, none⟩ := by unfold Addr.add; split <;> simp_all
      rw [this, Lib.bytesWorld_cell w _ s i (by omega)]
      simp [List.getD]

theorem el_tag : ElemOf Tryz.prog 92 128 2 32 (.agg #[.int .i64 0, .slice none 0 0]) := ⟨by kernel_rfl, ⟨_, rfl, rfl, rfl, rfl⟩, rfl, by decide, by decide⟩

theorem own_fullk (w : World) (base : Nat) (hb : base ≤ w.heap.size) (e : TypeId) (size : Nat) (cs : Array Value) (n : Nat) (hn : cs.size = n * size) (hm : n ≤ maxLen) :
    (w.alloc (.cells cs e)).ownsRow base e size (.slice (some ⟨w.heap.size, 0, none⟩) n n) n cs.toList :=
  ⟨by simp [hn], .inr ⟨w.heap.size, n, cs, rfl, hb, heap_alloc_new w _, Nat.le_refl _, hm, hn, by rw [← hn, ← Array.length_toList, List.take_length]⟩⟩

def tagsOf (u s : List UInt8) : List TagL := if 0 < u.length then [(257, s), (259, u)] else [(257, s)]

theorem own_shape {w : World} {base : Nat} {e : TypeId} {size : Nat} {v : Value} {n : Nat} {xs : List Value} (h : w.ownsRow base e size v n xs) (hn : 0 < n) : ∃ g c, v = .slice (some ⟨g, 0, none⟩) n c ∧ n ≤ c := by
  rcases h.2 with ⟨_, h0⟩ | ⟨g, cap, cur, rfl, _, _, hc, _⟩
  · omega
  · exact ⟨g, cap, rfl, hc⟩

theorem tags_one {w : World} {base : Nat} {e : TypeId} {v v1 : Value} {s : List UInt8} (h : w.ownsRow base e 2 v 1 [.int .i64 257, v1]) (h1 : IsBytes w v1 s) : IsTags w v [(257, s)] := by
  obtain ⟨g, c, rfl, hc⟩ := own_shape h (by decide)
  have e : ∀ i, (⟨g, 0, none⟩ : Addr).add i = ⟨g, i, none⟩ := by intro i; unfold Addr.add; split <;> simp_all
  refine ⟨_, _, rfl, hc, fun i t ht => ?_⟩
  rcases i with _ | i
  · simp at ht; subst ht
    exact ⟨by rw [e]; exact own_cell h _ _ rfl, v1, by rw [e]; exact own_cell h _ _ rfl, h1⟩
  · simp at ht
theorem tags_two {w : World} {base : Nat} {e : TypeId} {v v1 v2 : Value} {s u : List UInt8} (h : w.ownsRow base e 2 v 2 [.int .i64 257, v1, .int .i64 259, v2]) (h1 : IsBytes w v1 s) (h2 : IsBytes w v2 u) : IsTags w v [(257, s), (259, u)] := by
  obtain ⟨g, c, rfl, hc⟩ := own_shape h (by decide)
  have e : ∀ i, (⟨g, 0, none⟩ : Addr).add i = ⟨g, i, none⟩ := by intro i; unfold Addr.add; split <;> simp_all
  refine ⟨_, _, rfl, hc, fun i t ht => ?_⟩
  rcases i with _ | _ | i
  · simp at ht; subst ht
    exact ⟨by rw [e]; exact own_cell h _ _ rfl, v1, by rw [e]; exact own_cell h _ _ rfl, h1⟩
  · simp at ht; subst ht
    exact ⟨by rw [e]; exact own_cell h _ _ rfl, v2, by rw [e]; exact own_cell h _ _ rfl, h2⟩
  · simp at ht

/-- an append to a row in which no byte lies turns no bytes -/
theorem IsBytes.grown {w w' : World} {v : Value} {l : List UInt8} (h : IsBytes w v l) {g : Nat} (hg : w.grownBy w' (some g)) {cs : Array Value} {t : TypeId} {fr : Nat × Nat} (hb : w.heap[g]? = some (.cells cs t fr)) (hno : ∀ (j : Nat) (n : Int), cs[j]? ≠ some (Value.int .u8 n)) : IsBytes w' v l := by
  rcases h with h | ⟨x, cap, rfl, h1, h2, h3⟩
  · exact .inl h
  · refine .inr ⟨x, cap, rfl, h1, h2, fun i hi => ?_⟩
    have hc := h3 i hi
    have hne : (x.add i).block ≠ g := by
      intro he
      unfold World.cell? at hc
      rw [he, hb] at hc
      simp only at hc
      split at hc
      · cases hc
      · exact hno _ _ hc
    rw [World.cell?_of_block (w := w) (hg.block _ (World.block_lt_of_cell? w _ hc) (by simp [hne]))]
    exact hc
theorem no_byte (k : Int) (a : Option Addr) (n c : Nat) (j : Nat) (m : Int) : (#[Value.int .i64 k, .slice a n c])[j]? ≠ some (Value.int .u8 m) := by
  rcases j with _ | _ | j <;> simp

set_option maxHeartbeats 4000000 in
theorem ctags (B : Nat) (uv : Value) (u : List UInt8) (s : ByteArray) (w : World) (hu : u.length ≤ 100) (hs : s.size ≤ 100) (h6 : w.cell? ⟨B, 6, none⟩ = some uv) (h7 : w.cell? ⟨B, 7, none⟩ = some (.string s)) (hv : IsBytes w uv u) :
    Calls Tryz.prog 29 #[.pointer (some ⟨B, 0, none⟩)] w fun e w' => ∃ v, e = .returned v ∧ Below w.heap.size w w' ∧ IsTags w' v (tagsOf u s.data.toList) := by
  obtain ⟨a, cap, rfl, -, -⟩ := hv.shape
  have Hv := Lib.hid hv
  have H6 := Lib.hid h6
  clear hv h6
  obtain ⟨a1, c1, w1, hcv, hb1, hs1⟩ := conv_bytes s (by omega) w
  have Hb1 := Lib.hid hb1
  have S1 := Lib.hid hs1
  clear hb1 hs1
  have Hal : Hid (Below w.heap.size w (w1.alloc (.cells #[.int .i64 257, .slice a1 s.size c1] 128))) := Hb1.out.trans ((Below.refl _ _).alloc Hb1.out.size _)
  have S2 := Lib.hid (S1.out.below ((Below.refl w1.heap.size w1).alloc (Nat.le_refl _) (.cells #[.int .i64 257, .slice a1 s.size c1] 128)))
  have O2 := Lib.hid (own_fullk w1 w.heap.size Hb1.out.size 128 2 #[.int .i64 257, .slice a1 s.size c1] 1 rfl (by unfold maxLen; omega))
  have e6 := cell_below H6.out Hal.out
  by_cases h0 : 0 < u.length
  · have h0' : (0 : Int) < u.length := by omega
    go_enter Tryz.func29, Tryz.ntmps29
    go_wp2_with (first
      | (have x := Ho4.out; clear x; at_builtin; go_must (refine wpList_append_from rfl _ _ _ rfl w.heap.size el_tag rfl Ho4.out rfl HsT.out (by omega) HB4.out.size ?_); intro v5 W5 ho5 hg5 hb5)
      | (go_at_call 41; refine (clone_any _ u _ (Hv.out.below Hal.out) (by omega)).mono ?_; rintro e w3 ⟨v3, rfl, hb3, hs3⟩
         obtain ⟨a3, c3, rfl, -, -⟩ := hs3.shape
         have hal := (Below.refl w3.heap.size w3).alloc (Nat.le_refl _) (.cells #[.int .i64 259, .slice a3 u.length c3] 128)
         have S3 := Lib.hid (hs3.below hal)
         have S4 := Lib.hid ((S2.out.below hb3).below hal)
         have HB3 := Lib.hid (Hal.out.trans (hb3.mono Hal.out.size))
         have Ho4 := Lib.hid (own_below (own_below O2.out hb3) hal)
         have HB4 := Lib.hid (HB3.out.trans (hal.mono HB3.out.size))
         have HsT := Lib.hid (src_block 2 1 1 (heap_alloc_new w3 (.cells #[.int .i64 259, .slice a3 u.length c3] 128)) rfl (by simp [Value.oneCell']))
         have HR := Lib.hid ((hal.block w1.heap.size (Nat.lt_of_lt_of_le (by simp) hb3.size)).trans ((hb3.block w1.heap.size (by simp)).trans (heap_alloc_new w1 _)))
         clear hal hs3 hb3))
    go_ret
    refine ⟨_, rfl, HB4.out.trans hb5, ?_⟩
    unfold tagsOf; rw [if_pos h0]
    exact tags_two ho5 (S4.out.grown hg5 HR.out (no_byte _ _ _ _)) (S3.out.grown hg5 HR.out (no_byte _ _ _ _))
  · have h0' : ¬ (0 : Int) < u.length := by omega
    go_enter Tryz.func29, Tryz.ntmps29
    go_wp2
    go_ret
    refine ⟨_, rfl, Hal.out, ?_⟩
    unfold tagsOf; rw [if_neg h0]
    exact tags_one O2.out S2.out

set_option maxHeartbeats 4000000 in
theorem rtags_of (cs : Array Value) (uv : Value) (u : List UInt8) (s : ByteArray) (w : World) (hu : u.length ≤ 100) (hs : s.size ≤ 100) (h6 : cs[6]? = some uv) (h7 : cs[7]? = some (.string s)) (hv : IsBytes w uv u) :
    Calls Tryz.prog 43 #[.agg cs] w fun e w' => ∃ v, e = .returned v ∧ Below w.heap.size w w' ∧ IsTags w' v (tagsOf u s.data.toList) := by
  obtain ⟨a, cap, rfl, -, -⟩ := hv.shape
  have Hv := Lib.hid hv
  clear hv
  obtain ⟨w0, hw0⟩ : ∃ w0, w0 = w.alloc (.cells cs 53) := ⟨_, rfl⟩
  have hn := hw0 ▸ heap_alloc_new w (.cells cs 53)
  have Hb0 : Hid (Below w.heap.size w w0) := by rw [hw0]; exact (Below.refl _ _).alloc (Nat.le_refl _) _
  have H6 : Hid (w0.cell? ⟨w.heap.size, 6, none⟩ = some (.slice a u.length cap)) := by unfold Hid; rw [cell_of_row w0 _ _ _ _ _ hn]; exact h6
  have h7 : w0.cell? ⟨w.heap.size, 7, none⟩ = some (.string s) := by rw [cell_of_row w0 _ _ _ _ _ hn]; exact h7
  have Hv := Lib.hid (Hv.out.below Hb0.out)
  clear hn h6
  obtain ⟨a1, c1, w1, hcv, hb1, hs1⟩ := conv_bytes s (by omega) w0
  have Hb1 := Lib.hid hb1
  have S1 := Lib.hid hs1
  clear hb1 hs1
  have Hal : Hid (Below w0.heap.size w0 (w1.alloc (.cells #[.int .i64 257, .slice a1 s.size c1] 128))) := Hb1.out.trans ((Below.refl _ _).alloc Hb1.out.size _)
  have S2 := Lib.hid (S1.out.below ((Below.refl w1.heap.size w1).alloc (Nat.le_refl _) (.cells #[.int .i64 257, .slice a1 s.size c1] 128)))
  have O2 := Lib.hid (own_fullk w1 w0.heap.size Hb1.out.size 128 2 #[.int .i64 257, .slice a1 s.size c1] 1 rfl (by unfold maxLen; omega))
  have e6 := cell_below H6.out Hal.out
  have V2 := Lib.hid (Hv.out.below Hal.out)
  have Hfin : Hid (∀ W, Below w0.heap.size w0 W → Below w.heap.size w W) := fun W h => Hb0.out.trans (h.mono Hb0.out.size)
  by_cases h0 : 0 < u.length
  · have h0' : (0 : Int) < u.length := by omega
    have hal := (Below.refl (w1.alloc (.cells #[.int .i64 257, .slice a1 s.size c1] 128)).heap.size (w1.alloc (.cells #[.int .i64 257, .slice a1 s.size c1] 128))).alloc (Nat.le_refl _) (.cells #[.int .i64 259, .slice a u.length cap] 128)
    have S3 := Lib.hid (V2.out.below hal)
    have S4 := Lib.hid (S2.out.below hal)
    have Ho4 := Lib.hid (own_below O2.out hal)
    have HB4 := Lib.hid (Hal.out.trans (hal.mono Hal.out.size))
    have HsT := Lib.hid (src_block 2 1 1 (heap_alloc_new (w1.alloc (.cells #[.int .i64 257, .slice a1 s.size c1] 128)) (.cells #[.int .i64 259, .slice a u.length cap] 128)) rfl (by simp [Value.oneCell']))
    have HR := Lib.hid ((hal.block w1.heap.size (by simp)).trans (heap_alloc_new w1 _))
    rw [World.size_alloc] at HsT
    clear hal
    subst hw0
    go_enter Tryz.func43, Tryz.ntmps43
    go_wp2_with (at_builtin; go_must (refine wpList_append_from rfl _ _ _ rfl (w.alloc (.cells cs 53)).heap.size el_tag rfl Ho4.out rfl HsT.out (by omega) HB4.out.size ?_); intro v5 W5 ho5 hg5 hb5)
    go_ret
    refine ⟨_, rfl, Hfin.out _ (HB4.out.trans hb5), ?_⟩
    unfold tagsOf; rw [if_pos h0]
    exact tags_two ho5 (S4.out.grown hg5 HR.out (no_byte _ _ _ _)) (S3.out.grown hg5 HR.out (no_byte _ _ _ _))
  · have h0' : ¬ (0 : Int) < u.length := by omega
    subst hw0
    go_enter Tryz.func43, Tryz.ntmps43
    go_wp2
    go_ret
    refine ⟨_, rfl, Hfin.out _ Hal.out, ?_⟩
    unfold tagsOf; rw [if_neg h0]
    exact tags_one O2.out S2.out
end Go.Proofs.YtokiedeiamlnlaaGreat
