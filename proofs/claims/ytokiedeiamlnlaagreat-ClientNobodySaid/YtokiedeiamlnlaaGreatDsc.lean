/- A discovery packet of tags in a frame: the client's discovery, the reference's disc. -/
import Derived.Test.YtokiedeiamlnlaaGreatFrm
import Derived.Test.YtokiedeiamlnlaaGreatRTags
namespace Go.Proofs.YtokiedeiamlnlaaGreat
set_option linter.unusedSimpArgs false
set_option linter.unusedVariables false
open Go.RowKit
set_option maxRecDepth 10000

def discL (me to : Mac) (c s : Int) (l : List TagL) : List UInt8 := if tagsCode l = 0 then frameL me to 34915 c s (tagsOut l) else []
theorem tags_below {w W : World} {v : Value} {l : List TagL} (h : IsTags w v l) (hb : Below w.heap.size w W) : IsTags W v l := by
  obtain ⟨x, c, rfl, hc, h⟩ := h
  refine ⟨x, c, rfl, hc, fun i t ht => ?_⟩
  obtain ⟨h1, u, h2, h3⟩ := h i t ht
  exact ⟨cell_below h1 hb, u, cell_below h2 hb, h3.below hb⟩
theorem tagsCode_cases (l : List TagL) : tagsCode l = 0 ∨ tagsCode l = 2 ∨ tagsCode l = 3 ∨ tagsCode l = 50 := by
  unfold tagsCode; split
  · simp
  · split
    · split <;> simp
    · simp

set_option maxHeartbeats 4000000 in
theorem discovery_any (B : Nat) (me to : Mac) (c s : Int) (lv : Value) (l : List TagL) (w : World) (hm : MeAt w B me) (hv : IsTags w lv l) :
    Calls Tryz.prog 28 #[.pointer (some ⟨B, 0, none⟩), to.v, .int .i64 c, .int .i64 s, lv] w fun e w' => ∃ v', e = .returned v' ∧ Below w.heap.size w w' ∧ NewBytes w w' v' (discL me to c s l) := by
  rcases to with ⟨t1, t2, t3, t4, t5, t6⟩
  have HF : Hid (∀ w v, MeAt w B me → IsBytes w v (tagsOut l) → Calls Tryz.prog 63 #[.pointer (some ⟨B, 0, none⟩), macV t1 t2 t3 t4 t5 t6, .int .i64 34915, .agg #[.int .i64 c, .int .i64 s, v]] w _) := fun w v h1 h2 => framed_any B me ⟨t1, t2, t3, t4, t5, t6⟩ 34915 c s v (tagsOut l) w h1 h2
  unfold Mac.v macV at *
  obtain ⟨wA, hwA⟩ : ∃ wA, wA = w.alloc (.cells #[bv t1, bv t2, bv t3, bv t4, bv t5, bv t6] 23) := ⟨_, rfl⟩
  have HbA : Hid (Below w.heap.size w wA) := by rw [hwA]; exact (Below.refl _ _).alloc (Nat.le_refl _) _
  have HTA : Hid (wA.heap[w.heap.size]? = some (.cells #[bv t1, bv t2, bv t3, bv t4, bv t5, bv t6] 23 (0, 0))) := by rw [hwA]; exact heap_alloc_new w _
  have HltA : Hid (w.heap.size < wA.heap.size) := by rw [hwA]; simp only [World.size_alloc]; unfold Hid; omega
  have HmA := Lib.hid (hm.below HbA.out)
  have HP := Lib.hid (tags_enc lv l wA (tags_below hv HbA.out))
  clear hv hm
  rcases tagsCode_cases l with hcode | hcode | hcode | hcode
  all_goals
    rw [hcode] at HP
    have Hcode := Lib.hid hcode
    clear hcode
    subst hwA
    go_enter Tryz.func28, Tryz.ntmps28
    go_wp2_with (first
      | (have x := S2.out; clear x; go_at_call 63; refine (HF.out _ _ HM.out S2.out).mono ?_; rintro e w3 ⟨v3, rfl, hb3, hs3⟩
         have HB3 := Lib.hid (HB2.out.trans (hb3.mono HB2.out.size))
         have S3 := Lib.hid (hs3.older HB2.out.size)
         clear hb3 hs3)
      | (go_at_call 62; refine HP.out.mono ?_; rintro e w2 ⟨v2, rfl, hb2, hs2⟩
         obtain ⟨a2, c2, rfl, -, -⟩ := hs2.shape
         have HB2 := Lib.hid (HbA.out.trans (hb2.mono HbA.out.size))
         have hA := six_cells ((hb2.block _ HltA.out).trans HTA.out)
         have HM := Lib.hid (HmA.out.below hb2)
         have S2 := Lib.hid hs2
         clear hb2 hs2))
    go_ret
    first
      | exact ⟨_, rfl, HB3.out, by unfold discL; rw [Hcode.out, if_pos rfl]; exact S3.out⟩
      | exact ⟨_, rfl, HB2.out, by unfold discL; rw [Hcode.out]; exact .nil _ _⟩

set_option maxHeartbeats 4000000 in
theorem rdisc_any (cs : Array Value) (me to : Mac) (c : Int) (lv : Value) (l : List TagL) (w : World) (hs37 : cs.size = 37) (hm : MeIn cs me) (hv : IsTags w lv l) :
    Calls Tryz.prog 42 #[.agg cs, to.v, .int .i64 c, lv] w fun e w' => ∃ v', e = .returned v' ∧ Below w.heap.size w w' ∧ ((v' = .slice none 0 0 ∧ discL me to c 0 l = []) ∨ NewRow w w' v' (discL me to c 0 l)) := by
  rcases to with ⟨t1, t2, t3, t4, t5, t6⟩
  have HF : Hid (∀ w v, IsBytes w v (tagsOut l) → Calls Tryz.prog 81 #[.agg cs, macV t1 t2 t3 t4 t5 t6, .int .i64 34915, .agg #[.int .i64 c, .int .i64 0, v]] w _) := fun w v h2 => rframe_any cs me ⟨t1, t2, t3, t4, t5, t6⟩ 34915 c 0 v (tagsOut l) w hm h2
  unfold Mac.v macV at *
  obtain ⟨wA, hwA⟩ : ∃ wA, wA = (w.alloc (.cells cs 53)).alloc (.cells #[bv t1, bv t2, bv t3, bv t4, bv t5, bv t6] 23) := ⟨_, rfl⟩
  have h2 := hwA ▸ alloc2 w (.cells cs 53) (.cells #[bv t1, bv t2, bv t3, bv t4, bv t5, bv t6] 23)
  have HbA : Hid (Below w.heap.size w wA) := by rw [hwA]; exact ((Below.refl _ _).alloc (Nat.le_refl _) _).alloc (by simp) _
  have HCA := Lib.hid h2.1
  have HTA := Lib.hid h2.2.1
  have HltA : Hid (w.heap.size + 1 < wA.heap.size) := by have := h2.2.2; unfold Hid; omega
  have HP := Lib.hid (rtags_enc lv l wA (tags_below hv HbA.out))
  clear hv hm h2
  rcases tagsCode_cases l with hcode | hcode | hcode | hcode
  all_goals
    rw [hcode] at HP
    have Hcode := Lib.hid hcode
    clear hcode
    subst hwA
    go_enter Tryz.func42, Tryz.ntmps42
    go_wp2_with (first
      | (have x := HN.out; clear x; refine wpList_load_rc rfl _ rfl rfl HN.out hs37 ?_)
      | (have x := S2.out; clear x; go_at_call 81; refine (HF.out _ _ S2.out).mono ?_; rintro e w3 ⟨v3, rfl, hb3, hs3⟩
         have HB3 := Lib.hid (HB2.out.trans (hb3.mono HB2.out.size))
         have S3 := Lib.hid (hs3.imp id fun h => h.older HB2.out.size)
         clear hb3 hs3)
      | (go_at_call 80; refine HP.out.mono ?_; rintro e w2 ⟨v2, rfl, hb2, hs2⟩
         obtain ⟨a2, c2, rfl, -, -⟩ := hs2.shape
         have HB2 := Lib.hid (HbA.out.trans (hb2.mono HbA.out.size))
         have hA := six_cells ((hb2.block _ HltA.out).trans HTA.out)
         have HN := Lib.hid ((hb2.block _ (Nat.lt_trans (Nat.lt_succ_self _) HltA.out)).trans HCA.out)
         have S2 := Lib.hid hs2
         clear hb2 hs2))
    go_ret
    first
      | exact ⟨_, rfl, HB3.out, by unfold discL; rw [Hcode.out, if_pos rfl]; exact S3.out⟩
      | exact ⟨_, rfl, HB2.out, .inl ⟨rfl, by unfold discL; rw [Hcode.out]; exact rfl⟩⟩
end Go.Proofs.YtokiedeiamlnlaaGreat
