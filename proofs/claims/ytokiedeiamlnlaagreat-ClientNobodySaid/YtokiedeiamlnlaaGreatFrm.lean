/- A packet in a frame: the client's framed, the reference's frame. -/
import Derived.Test.YtokiedeiamlnlaaGreatCl4
namespace Go.Proofs.YtokiedeiamlnlaaGreat
set_option linter.unusedSimpArgs false
set_option linter.unusedVariables false
open Go.RowKit
set_option maxRecDepth 10000

def frameL (me to : Mac) (typ c s : Int) (p : List UInt8) : List UInt8 := if packCode c s p.length = 0 then etherOut to me typ (packOut c s p) else []
/-- the cells of an address at the head of a block -/
def MeAt (w : World) (B : Nat) (m : Mac) : Prop := w.cell? ⟨B, 0, none⟩ = some (bv m.a) ∧ w.cell? ⟨B, 1, none⟩ = some (bv m.b) ∧ w.cell? ⟨B, 2, none⟩ = some (bv m.c) ∧ w.cell? ⟨B, 3, none⟩ = some (bv m.d) ∧ w.cell? ⟨B, 4, none⟩ = some (bv m.e) ∧ w.cell? ⟨B, 5, none⟩ = some (bv m.f)
theorem MeAt.below {w W : World} {B : Nat} {m : Mac} (h : MeAt w B m) (hb : Below w.heap.size w W) : MeAt W B m :=
  ⟨cell_below h.1 hb, cell_below h.2.1 hb, cell_below h.2.2.1 hb, cell_below h.2.2.2.1 hb, cell_below h.2.2.2.2.1 hb, cell_below h.2.2.2.2.2 hb⟩
theorem me_below {w W : World} {B : Nat} {a b c d e f : UInt8} (h : MeAt w B ⟨a, b, c, d, e, f⟩) (hb : Below w.heap.size w W) :
    W.cell? ⟨B, 0, none⟩ = some (bv a) ∧ W.cell? ⟨B, 1, none⟩ = some (bv b) ∧ W.cell? ⟨B, 2, none⟩ = some (bv c) ∧ W.cell? ⟨B, 3, none⟩ = some (bv d) ∧ W.cell? ⟨B, 4, none⟩ = some (bv e) ∧ W.cell? ⟨B, 5, none⟩ = some (bv f) := h.below hb
theorem packCode_cases (c s : Int) (n : Nat) : packCode c s n = 0 ∨ packCode c s n = 2 ∨ packCode c s n = 60 := by
  unfold packCode; split
  · split <;> simp
  · simp

set_option maxHeartbeats 4000000 in
theorem framed_any (B : Nat) (me to : Mac) (typ c s : Int) (v : Value) (p : List UInt8) (w : World) (hm : MeAt w B me) (hv : IsBytes w v p) :
    Calls Tryz.prog 63 #[.pointer (some ⟨B, 0, none⟩), to.v, .int .i64 typ, .agg #[.int .i64 c, .int .i64 s, v]] w fun e w' => ∃ v', e = .returned v' ∧ Below w.heap.size w w' ∧ NewBytes w w' v' (frameL me to typ c s p) := by
  obtain ⟨a, cap, rfl, -, -⟩ := hv.shape
  rcases me with ⟨m1, m2, m3, m4, m5, m6⟩
  rcases to with ⟨t1, t2, t3, t4, t5, t6⟩
  unfold Mac.v macV
  obtain ⟨wA, hwA⟩ : ∃ wA, wA = (w.alloc (.cells #[bv t1, bv t2, bv t3, bv t4, bv t5, bv t6] 23)).alloc (.cells #[.int .i64 c, .int .i64 s, .slice a p.length cap] 78) := ⟨_, rfl⟩
  have HbA : Hid (Below w.heap.size w wA) := by rw [hwA]; exact ((Below.refl _ _).alloc (Nat.le_refl _) _).alloc (by simp) _
  have HTA : Hid (wA.heap[w.heap.size]? = some (.cells #[bv t1, bv t2, bv t3, bv t4, bv t5, bv t6] 23 (0, 0))) := by rw [hwA]; exact (alloc2 w _ _).1
  have HltA : Hid (w.heap.size < wA.heap.size) := by rw [hwA]; simp only [World.size_alloc]; unfold Hid; omega
  have HvA := Lib.hid (hv.below HbA.out)
  have HmA := Lib.hid (hm.below HbA.out)
  have HP := Lib.hid (pack_enc c s (.slice a p.length cap) p wA HvA.out)
  clear hv hm
  rcases packCode_cases c s p.length with hcode | hcode | hcode
  · rw [hcode] at HP
    have Hcode := Lib.hid hcode
    clear hcode
    subst hwA
    go_enter Tryz.func63, Tryz.ntmps63
    go_wp2_with (go_at_call 110; refine HP.out.mono ?_; rintro e w2 ⟨v2, rfl, hb2, hs2⟩)
    have HB2 := Lib.hid (HbA.out.trans (hb2.mono HbA.out.size))
    have HT : Hid (w2.heap[w.heap.size]? = _) := (hb2.block _ HltA.out).trans HTA.out
    have Hlt : Hid (w.heap.size < w2.heap.size) := Nat.lt_of_lt_of_le HltA.out hb2.size
    have HM := Lib.hid (HmA.out.below hb2)
    have S2 := Lib.hid hs2
    clear hb2 hs2
    obtain ⟨a2, c2, rfl, -, -⟩ := S2.out.shape
    refine rn_begin (w2.heap.size) (by kernel_rfl) ?_
    have hA := fun W (hW : Sn w2.heap.size w2.drew W) => six_cells ((((Below.refl w2.heap.size w2).drew.trans hW).block _ Hlt.out).trans HT.out)
    have hM := fun W (hW : Sn w2.heap.size w2.drew W) => me_below HM.out ((Below.refl w2.heap.size w2).drew.trans hW)
    refine rn_take (i := 0) rfl (by kernel_rfl) (by kernel_rfl) (by kernel_rfl) (fun _ _ _ h => h) (by rfl) (v := ?_) ?_ ?_
    rotate_left 1
    · intro W hW; go_simp; all_goals with_reducible rfl
    simp only [Act.put, List.setIfInBounds_toArray, List.set_cons_zero, List.set_cons_succ]
    refine rn_take (i := 1) rfl (by kernel_rfl) (by kernel_rfl) (by kernel_rfl) (fun _ _ _ h => h) (by rfl) (v := ?_) ?_ ?_
    rotate_left 1
    · intro W hW; go_simp; all_goals with_reducible rfl
    simp only [Act.put, List.setIfInBounds_toArray, List.set_cons_zero, List.set_cons_succ]
    refine rn_take (i := 2) rfl (by kernel_rfl) (by kernel_rfl) (by kernel_rfl) (fun _ _ _ h => h) (by rfl) (v := ?_) ?_ ?_
    rotate_left 1
    · intro W hW; go_simp; all_goals with_reducible rfl
    simp only [Act.put, List.setIfInBounds_toArray, List.set_cons_zero, List.set_cons_succ]
    refine rn_take (i := 3) rfl (by kernel_rfl) (by kernel_rfl) (by kernel_rfl) (fun _ _ _ h => h) (by rfl) (v := ?_) ?_ ?_
    rotate_left 1
    · intro W hW; go_simp; all_goals with_reducible rfl
    simp only [Act.put, List.setIfInBounds_toArray, List.set_cons_zero, List.set_cons_succ]
    refine rn_take (i := 4) rfl (by kernel_rfl) (by kernel_rfl) (by kernel_rfl) (fun _ _ _ h => h) (by rfl) (v := ?_) ?_ ?_
    rotate_left 1
    · intro W hW; go_simp; all_goals with_reducible rfl
    simp only [Act.put, List.setIfInBounds_toArray, List.set_cons_zero, List.set_cons_succ]
    clear hA hM
    refine rn_take (i := 5) rfl (by kernel_rfl) (by kernel_rfl) (by kernel_rfl) (fun _ _ _ h => h) (by rfl) (v := ?_) ?_ ?_
    rotate_left 1
    · intro W hW; go_simp; all_goals with_reducible rfl
    simp only [Act.put, List.setIfInBounds_toArray, List.set_cons_zero, List.set_cons_succ]
    refine rn_take (i := 6) rfl (by kernel_rfl) (by kernel_rfl) (by kernel_rfl) (fun _ _ _ h => h) (by rfl) (v := ?_) ?_ ?_
    rotate_left 1
    · intro W hW; go_simp; all_goals with_reducible rfl
    simp only [Act.put, List.setIfInBounds_toArray, List.set_cons_zero, List.set_cons_succ]
    refine rn_take (i := 7) rfl (by kernel_rfl) (by kernel_rfl) (by kernel_rfl) (fun _ _ _ h => h) (by rfl) (v := ?_) ?_ ?_
    rotate_left 1
    · intro W hW; go_simp; all_goals with_reducible rfl
    simp only [Act.put, List.setIfInBounds_toArray, List.set_cons_zero, List.set_cons_succ]
    have Hbd : Hid (Below w2.heap.size w2 w2.drew) := (Below.refl _ _).drew
    have S2 := Lib.hid (S2.out.below Hbd.out)
    have HE := ether_enc ⟨t1, t2, t3, t4, t5, t6⟩ ⟨m1, m2, m3, m4, m5, m6⟩ typ (.slice a2 (packOut c s p).length c2) (packOut c s p) w2.drew S2.out
    rcases etherCode_cases typ (packOut c s p).length with hq | hq | hq
    all_goals
      rw [hq] at HE
      have HE := Lib.hid HE
      have HQ := Lib.hid hq
      clear hq
      refine rn_one (i := 8) (by kernel_rfl) ?_
      refine st_call (i := 8) rfl (by rfl) (f := 111) (args := #[etherV ⟨t1, t2, t3, t4, t5, t6⟩ ⟨m1, m2, m3, m4, m5, m6⟩ typ (.slice a2 (packOut c s p).length c2)]) (by go_simp; rfl) (HE.out.mono ?_)
      rintro e w3 ⟨v3, rfl, hb3, hs3⟩
      have S3 := Lib.hid (hs3.older (w0 := w) (Nat.le_trans HB2.out.size Hbd.out.size))
      have hb3 := hb3.mono Hbd.out.size
      have HB := Lib.hid (Hbd.out.trans hb3)
      refine ⟨_, rfl, hb3, ?_⟩
      clear hs3 hb3
      simp only [Act.put, List.setIfInBounds_toArray, List.set_cons_zero, List.set_cons_succ]
      refine rn_take (i := 9) rfl (by kernel_rfl) (by kernel_rfl) (by kernel_rfl) (fun _ _ _ h => h) (by rfl) (v := ?_) ?_ ?_
      rotate_left 1
      · intro W hW; go_simp; all_goals with_reducible rfl
      simp only [Act.put, List.setIfInBounds_toArray, List.set_cons_zero, List.set_cons_succ]
      refine rn_take (i := 10) rfl (by kernel_rfl) (by kernel_rfl) (by kernel_rfl) (fun _ _ _ h => h) (by rfl) (v := ?_) ?_ ?_
      rotate_left 1
      · intro W hW; go_simp; all_goals with_reducible rfl
      simp only [Act.put, List.setIfInBounds_toArray, List.set_cons_zero, List.set_cons_succ]
      refine rn_take (i := 11) rfl (by kernel_rfl) (by kernel_rfl) (by kernel_rfl) (fun _ _ _ h => h) (by rfl) (v := ?_) ?_ ?_
      rotate_left 1
      · intro W hW; go_simp; all_goals with_reducible rfl
      simp only [Act.put, List.setIfInBounds_toArray, List.set_cons_zero, List.set_cons_succ]
      refine rn_take (i := 12) rfl (by kernel_rfl) (by kernel_rfl) (by kernel_rfl) (fun _ _ _ h => h) (by rfl) (v := ?_) ?_ ?_
      rotate_left 1
      · intro W hW; go_simp; all_goals with_reducible rfl
      simp only [Act.put, List.setIfInBounds_toArray, List.set_cons_zero, List.set_cons_succ]
      refine rn_take (i := 13) rfl (by kernel_rfl) (by kernel_rfl) (by kernel_rfl) (fun _ _ _ h => h) (by rfl) (v := ?_) ?_ ?_
      rotate_left 1
      · intro W hW; go_simp; all_goals with_reducible rfl
      simp only [Act.put, List.setIfInBounds_toArray, List.set_cons_zero, List.set_cons_succ]
      refine rn_done (by kernel_rfl) ?_
      go_wp2
      go_ret
      refine ⟨_, rfl, HB2.out.trans (HB.out.mono HB2.out.size), ?_⟩
      unfold frameL; rw [Hcode.out, if_pos rfl]
      first
        | exact S3.out
        | (unfold etherOut; rw [HQ.out]; exact .nil _ _)
  · rw [hcode] at HP
    have Hcode := Lib.hid hcode
    clear hcode
    subst hwA
    go_enter Tryz.func63, Tryz.ntmps63
    go_wp2_with (go_at_call 110; refine HP.out.mono ?_; rintro e w2 ⟨v2, rfl, hb2, hs2⟩)
    go_ret
    refine ⟨_, rfl, HbA.out.trans (hb2.mono HbA.out.size), ?_⟩
    unfold frameL; rw [Hcode.out]; exact .nil _ _
  · rw [hcode] at HP
    have Hcode := Lib.hid hcode
    clear hcode
    subst hwA
    go_enter Tryz.func63, Tryz.ntmps63
    go_wp2_with (go_at_call 110; refine HP.out.mono ?_; rintro e w2 ⟨v2, rfl, hb2, hs2⟩)
    go_ret
    refine ⟨_, rfl, HbA.out.trans (hb2.mono HbA.out.size), ?_⟩
    unfold frameL; rw [Hcode.out]; exact .nil _ _

/-- the cells of an address at the head of a row -/
def MeIn (cs : Array Value) (m : Mac) : Prop := cs[0]? = some (bv m.a) ∧ cs[1]? = some (bv m.b) ∧ cs[2]? = some (bv m.c) ∧ cs[3]? = some (bv m.d) ∧ cs[4]? = some (bv m.e) ∧ cs[5]? = some (bv m.f)
theorem MeIn.at {cs : Array Value} {m : Mac} (h : MeIn cs m) {w : World} {B : Nat} {t : TypeId} {fr : Nat × Nat} (hb : w.heap[B]? = some (.cells cs t fr)) : MeAt w B m := by
  refine ⟨?_, ?_, ?_, ?_, ?_, ?_⟩ <;> rw [cell_of_row w B _ _ _ _ hb]
  · exact h.1
  · exact h.2.1
  · exact h.2.2.1
  · exact h.2.2.2.1
  · exact h.2.2.2.2.1
  · exact h.2.2.2.2.2
/-- a fresh row of one slice of bytes -/
def NewRow (w0 w : World) (v : Value) (l : List UInt8) : Prop := ∃ B u, w0.heap.size ≤ B ∧ v = .slice (some ⟨B, 0, none⟩) 1 1 ∧ w.cell? ⟨B, 0, none⟩ = some u ∧ NewBytes w0 w u l
theorem NewRow.older {w0 w1 w : World} {v : Value} {l : List UInt8} (h : NewRow w1 w v l) (hs : w0.heap.size ≤ w1.heap.size) : NewRow w0 w v l := by
  obtain ⟨B, u, h1, h2, h3, h4⟩ := h
  exact ⟨B, u, Nat.le_trans hs h1, h2, h3, h4.older hs⟩
theorem rows_one {w0 w : World} {t : TypeId} {v : Value} {l : List UInt8} (h : NewBytes w0 w v l) (hs : w0.heap.size ≤ w.heap.size) : NewRow w0 (w.alloc (.cells #[v] t)) (.slice (some ⟨w.heap.size, 0, none⟩) 1 1) l := by
  refine ⟨w.heap.size, v, hs, rfl, ?_, h.below ((Below.refl _ _).alloc (Nat.le_refl _) _)⟩
  rw [cell_of_row _ _ _ _ t _ (heap_alloc_new w _)]; rfl

set_option maxHeartbeats 4000000 in
theorem rframe_any (cs : Array Value) (me to : Mac) (typ c s : Int) (v : Value) (p : List UInt8) (w : World) (hm : MeIn cs me) (hv : IsBytes w v p) :
    Calls Tryz.prog 81 #[.agg cs, to.v, .int .i64 typ, .agg #[.int .i64 c, .int .i64 s, v]] w fun e w' => ∃ v', e = .returned v' ∧ Below w.heap.size w w' ∧ ((v' = .slice none 0 0 ∧ frameL me to typ c s p = []) ∨ NewRow w w' v' (frameL me to typ c s p)) := by
  obtain ⟨a, cap, rfl, -, -⟩ := hv.shape
  rcases me with ⟨m1, m2, m3, m4, m5, m6⟩
  rcases to with ⟨t1, t2, t3, t4, t5, t6⟩
  unfold Mac.v macV
  obtain ⟨wA, hwA⟩ : ∃ wA, wA = ((w.alloc (.cells cs 53)).alloc (.cells #[bv t1, bv t2, bv t3, bv t4, bv t5, bv t6] 23)).alloc (.cells #[.int .i64 c, .int .i64 s, .slice a p.length cap] 78) := ⟨_, rfl⟩
  have h3 := hwA ▸ alloc3 w (.cells cs 53) (.cells #[bv t1, bv t2, bv t3, bv t4, bv t5, bv t6] 23) (.cells #[.int .i64 c, .int .i64 s, .slice a p.length cap] 78)
  have HbA := Lib.hid h3.2.2.2.2
  have HTA := Lib.hid h3.2.1
  have HltA : Hid (w.heap.size + 1 < wA.heap.size) := by have := h3.2.2.2.1; unfold Hid; omega
  have HvA := Lib.hid (hv.below HbA.out)
  have HmA := Lib.hid (hm.at h3.1)
  have HP := Lib.hid (rpack_enc c s (.slice a p.length cap) p wA HvA.out)
  clear hv hm h3
  rcases packCode_cases c s p.length with hcode | hcode | hcode
  · rw [hcode] at HP
    have Hcode := Lib.hid hcode
    clear hcode
    rcases etherCode_cases typ (packOut c s p).length with hq | hq | hq
    all_goals
      have HQ := Lib.hid hq
      have HE : Hid (∀ v w, IsBytes w v (packOut c s p) → Calls Tryz.prog 52 #[etherV ⟨t1, t2, t3, t4, t5, t6⟩ ⟨m1, m2, m3, m4, m5, m6⟩ typ v] w _) := fun v w h => rether_enc ⟨t1, t2, t3, t4, t5, t6⟩ ⟨m1, m2, m3, m4, m5, m6⟩ typ v (packOut c s p) w h
      rw [hq] at HE
      clear hq
      subst hwA
      go_enter Tryz.func81, Tryz.ntmps81
      go_wp2_with (first
        | (have x := S2.out; clear x; go_at_call 52; refine (HE.out _ _ S2.out).mono ?_; rintro e w3 ⟨v3, rfl, hb3, hs3⟩
           obtain ⟨a3, c3, rfl, -, -⟩ := hs3.1.shape
           have HB3 := Lib.hid (HB2.out.trans (hb3.mono HB2.out.size))
           have S3 := Lib.hid (hs3.older HB2.out.size)
           clear hb3 hs3)
        | (go_at_call 51; refine HP.out.mono ?_; rintro e w2 ⟨v2, rfl, hb2, hs2⟩
           obtain ⟨a2, c2, rfl, -, -⟩ := hs2.shape
           have HB2 := Lib.hid (HbA.out.trans (hb2.mono HbA.out.size))
           have hA := six_cells ((hb2.block _ HltA.out).trans HTA.out)
           have hM := me_below HmA.out hb2
           have S2 := Lib.hid hs2
           clear hb2 hs2))
      go_ret
      first
        | exact ⟨_, rfl, HB3.out.trans ((Below.refl _ _).alloc HB3.out.size _), .inr (by unfold frameL; rw [Hcode.out, if_pos rfl]; exact rows_one S3.out HB3.out.size)⟩
        | exact ⟨_, rfl, HB3.out, .inl ⟨rfl, by unfold frameL; rw [Hcode.out, if_pos rfl]; unfold etherOut; rw [HQ.out]; exact rfl⟩⟩
  · rw [hcode] at HP
    have Hcode := Lib.hid hcode
    clear hcode
    subst hwA
    go_enter Tryz.func81, Tryz.ntmps81
    go_wp2_with (go_at_call 51; refine HP.out.mono ?_; rintro e w2 ⟨v2, rfl, hb2, hs2⟩)
    go_ret
    exact ⟨_, rfl, HbA.out.trans (hb2.mono HbA.out.size), .inl ⟨rfl, by unfold frameL; rw [Hcode.out]; exact rfl⟩⟩
  · rw [hcode] at HP
    have Hcode := Lib.hid hcode
    clear hcode
    subst hwA
    go_enter Tryz.func81, Tryz.ntmps81
    go_wp2_with (go_at_call 51; refine HP.out.mono ?_; rintro e w2 ⟨v2, rfl, hb2, hs2⟩)
    go_ret
    exact ⟨_, rfl, HbA.out.trans (hb2.mono HbA.out.size), .inl ⟨rfl, by unfold frameL; rw [Hcode.out]; exact rfl⟩⟩
end Go.Proofs.YtokiedeiamlnlaaGreat
