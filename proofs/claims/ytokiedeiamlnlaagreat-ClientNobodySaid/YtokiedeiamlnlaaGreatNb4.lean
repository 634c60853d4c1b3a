/- Nb4: the walk of ClientNobody. No condition. -/
import Derived.Test.YtokiedeiamlnlaaGreatNb3
namespace Go.Proofs.YtokiedeiamlnlaaGreat
set_option linter.unusedSimpArgs false
set_option linter.unusedVariables false
open Go.RowKit
set_option maxRecDepth 10000

def kCells (m : Mac) (u : Value) (s : ByteArray) (mg : Int) : Array Value := #[bv m.a, bv m.b, bv m.c, bv m.d, bv m.e, bv m.f, u, .string s, .int .i64 mg]
/-- the zero client -/
def nCells : Array Value := #[z8, z8, z8, z8, z8, z8, zn, .string ⟨#[]⟩, zi, zi, z8, z8, z8, z8, z8, z8, zi, zi, zi, zi, zn, zi, zi, zi, zi, zi, zi, zi, zi, zi, zi, zi, zn, zi, zi, zi, .bool false, .bool false]
theorem built_nob : Tryz.prog.built 37 [] = some nCells := by kernel_rfl

theorem gen_w {R : World → Prop} {w0 W0 : World} (hb : Below w0.heap.size w0 W0) (k : ∀ W, Below w0.heap.size w0 W → R W) : R W0 := k W0 hb
theorem nine_cells {W : World} {B : Nat} {m : Mac} {u : Value} {s : ByteArray} {mg : Int} {t : TypeId} (h : W.heap[B]? = some (.cells (kCells m u s mg) t (0, 0))) :
    W.cell? ⟨B, 0, none⟩ = some (bv m.a) ∧ W.cell? ⟨B, 1, none⟩ = some (bv m.b) ∧ W.cell? ⟨B, 2, none⟩ = some (bv m.c) ∧ W.cell? ⟨B, 3, none⟩ = some (bv m.d) ∧ W.cell? ⟨B, 4, none⟩ = some (bv m.e) ∧ W.cell? ⟨B, 5, none⟩ = some (bv m.f) ∧
    W.cell? ⟨B, 6, none⟩ = some u ∧ W.cell? ⟨B, 7, none⟩ = some (.string s) ∧ W.cell? ⟨B, 8, none⟩ = some (.int .i64 mg) := by
  refine ⟨?_, ?_, ?_, ?_, ?_, ?_, ?_, ?_, ?_⟩ <;> rw [cell_of_row W _ _ _ _ _ h] <;> rfl

set_option maxHeartbeats 8000000 in
theorem lawNobody (m : Mac) (uv : Value) (u : List UInt8) (s : ByteArray) (mg : Int) (x : Int) (w : World) (hv : IsBytes w uv u) (hl : u.length ≤ 140737488355328) :
    Calls Tryz.prog 3 #[.agg (kCells m uv s mg), .int .u8 x] w fun e w' => e = .returned (.bool true) ∧ Below w.heap.size w w' := by
  obtain ⟨a, cap, rfl, -, -⟩ := hv.shape
  have HAW := Lib.hid awake_true
  have Hv := Lib.hid hv
  clear hv
  obtain ⟨wA, hwA⟩ : ∃ wA, wA = w.alloc (.cells (kCells m (.slice a u.length cap) s mg) 26) := ⟨_, rfl⟩
  have HbA : Hid (Below w.heap.size w wA) := by rw [hwA]; exact (Below.refl _ _).alloc (Nat.le_refl _) _
  have HKA : Hid (wA.heap[w.heap.size]? = some (.cells (kCells m (.slice a u.length cap) s mg) 26 (0, 0))) := by rw [hwA]; exact heap_alloc_new w _
  obtain ⟨wB, hwB⟩ : ∃ wB, wB = wA.alloc (.cells nCells 37) := ⟨_, rfl⟩
  have HbB : Hid (Below wA.heap.size wA wB) := by rw [hwB]; exact (Below.refl _ _).alloc (Nat.le_refl _) _
  have HNB : Hid (wB.heap[wA.heap.size]? = some (.cells nCells 37 (0, 0))) := by rw [hwB]; exact heap_alloc_new wA _
  have HltB : Hid (wA.heap.size < wB.heap.size) := by rw [hwB]; simp only [World.size_alloc]; unfold Hid; omega
  have eA : wA.heap.size = w.heap.size + 1 := by rw [hwA]; simp
  have HN : Hid (∀ W, Below wB.heap.size wB W → Nob W (.pointer (some ⟨w.heap.size + 1, 0, none⟩))) := fun W hb => .inr ⟨_, rfl, by rw [← eA, cell_of_row W _ 37 _ _ _ ((hb.block _ HltB.out).trans HNB.out)]; rfl⟩
  clear eA
  have HvA := Lib.hid (Hv.out.below HbA.out)
  subst hwB
  subst hwA
  go_enter Tryz.func3, Tryz.ntmps3
  go_wp2_with (first
    | (refine wpList_build_to rfl 37 #[] rfl (cells := nCells) built_nob ?_))
  refine wp_loop_rounds 3 ?_
  rw [rounds_succ]
  go_wp2_with (first
    | (go_at_call 5; refine (nob_begin (by first | exact .inl rfl | exact HN.out _ (by repeat (first | exact Below.refl _ _ | refine Below.alloc ?_ (by simp only [World.size_alloc]; omega) _)))).mono ?_; rintro e w' ⟨rfl, rfl⟩)
    | (go_at_call 6; refine (nob_hear (by first | exact .inl rfl | exact HN.out _ (by repeat (first | exact Below.refl _ _ | refine Below.alloc ?_ (by simp only [World.size_alloc]; omega) _)))).mono ?_; rintro e w' ⟨rfl, rfl⟩)
    | (go_at_call 7; refine (nob_send (by first | exact .inl rfl | exact HN.out _ (by repeat (first | exact Below.refl _ _ | refine Below.alloc ?_ (by simp only [World.size_alloc]; omega) _)))).mono ?_; rintro e w' ⟨rfl, rfl⟩)
    | (go_at_call 8; refine (nob_hang (by first | exact .inl rfl | exact HN.out _ (by repeat (first | exact Below.refl _ _ | refine Below.alloc ?_ (by simp only [World.size_alloc]; omega) _)))).mono ?_; rintro e w' ⟨rfl, rfl⟩)
    | (go_at_call 9; refine (nob_phase (by first | exact .inl rfl | exact HN.out _ (by repeat (first | exact Below.refl _ _ | refine Below.alloc ?_ (by simp only [World.size_alloc]; omega) _)))).mono ?_; rintro e w' ⟨rfl, rfl⟩)
    | (go_at_call 10; refine (nob_session (by first | exact .inl rfl | exact HN.out _ (by repeat (first | exact Below.refl _ _ | refine Below.alloc ?_ (by simp only [World.size_alloc]; omega) _)))).mono ?_; rintro e w' ⟨rfl, rfl⟩)
    | (go_at_call 11; refine (nob_address (by first | exact .inl rfl | exact HN.out _ (by repeat (first | exact Below.refl _ _ | refine Below.alloc ?_ (by simp only [World.size_alloc]; omega) _)))).mono ?_; rintro e w' ⟨rfl, rfl⟩)
    | (go_at_call 12; refine (nob_up (by first | exact .inl rfl | exact HN.out _ (by repeat (first | exact Below.refl _ _ | refine Below.alloc ?_ (by simp only [World.size_alloc]; omega) _)))).mono ?_; rintro e w' ⟨rfl, rfl⟩)
    | (go_at_call 13; refine (nob_fork (by first | exact .inl rfl | exact HN.out _ (by repeat (first | exact Below.refl _ _ | refine Below.alloc ?_ (by simp only [World.size_alloc]; omega) _)))).mono ?_; rintro e w' ⟨rfl, rfl⟩))
  rw [rounds_succ]
  go_wp2_with (first
    | (go_at_call 5; refine (nob_begin (by first | exact .inl rfl | exact HN.out _ (by repeat (first | exact Below.refl _ _ | refine Below.alloc ?_ (by simp only [World.size_alloc]; omega) _)))).mono ?_; rintro e w' ⟨rfl, rfl⟩)
    | (go_at_call 6; refine (nob_hear (by first | exact .inl rfl | exact HN.out _ (by repeat (first | exact Below.refl _ _ | refine Below.alloc ?_ (by simp only [World.size_alloc]; omega) _)))).mono ?_; rintro e w' ⟨rfl, rfl⟩)
    | (go_at_call 7; refine (nob_send (by first | exact .inl rfl | exact HN.out _ (by repeat (first | exact Below.refl _ _ | refine Below.alloc ?_ (by simp only [World.size_alloc]; omega) _)))).mono ?_; rintro e w' ⟨rfl, rfl⟩)
    | (go_at_call 8; refine (nob_hang (by first | exact .inl rfl | exact HN.out _ (by repeat (first | exact Below.refl _ _ | refine Below.alloc ?_ (by simp only [World.size_alloc]; omega) _)))).mono ?_; rintro e w' ⟨rfl, rfl⟩)
    | (go_at_call 9; refine (nob_phase (by first | exact .inl rfl | exact HN.out _ (by repeat (first | exact Below.refl _ _ | refine Below.alloc ?_ (by simp only [World.size_alloc]; omega) _)))).mono ?_; rintro e w' ⟨rfl, rfl⟩)
    | (go_at_call 10; refine (nob_session (by first | exact .inl rfl | exact HN.out _ (by repeat (first | exact Below.refl _ _ | refine Below.alloc ?_ (by simp only [World.size_alloc]; omega) _)))).mono ?_; rintro e w' ⟨rfl, rfl⟩)
    | (go_at_call 11; refine (nob_address (by first | exact .inl rfl | exact HN.out _ (by repeat (first | exact Below.refl _ _ | refine Below.alloc ?_ (by simp only [World.size_alloc]; omega) _)))).mono ?_; rintro e w' ⟨rfl, rfl⟩)
    | (go_at_call 12; refine (nob_up (by first | exact .inl rfl | exact HN.out _ (by repeat (first | exact Below.refl _ _ | refine Below.alloc ?_ (by simp only [World.size_alloc]; omega) _)))).mono ?_; rintro e w' ⟨rfl, rfl⟩)
    | (go_at_call 13; refine (nob_fork (by first | exact .inl rfl | exact HN.out _ (by repeat (first | exact Below.refl _ _ | refine Below.alloc ?_ (by simp only [World.size_alloc]; omega) _)))).mono ?_; rintro e w' ⟨rfl, rfl⟩))
  refine gen_w (R := fun W => Code.rounds _ _ _ _ _ W) (w0 := w.alloc (.cells (kCells m (.slice a u.length cap) s mg) 26)) (by repeat (first | exact Below.refl _ _ | refine Below.alloc ?_ (by simp only [World.size_alloc]; omega) _)) ?_
  intro W1 hb1
  have HltK : Hid (w.heap.size < (w.alloc (.cells (kCells m (.slice a u.length cap) s mg) 26)).heap.size) := by simp only [World.size_alloc]; unfold Hid; omega
  have HK1 : Hid (W1.heap[w.heap.size]? = some (.cells (kCells m (.slice a u.length cap) s mg) 26 (0, 0))) := (hb1.block _ HltK.out).trans HKA.out
  have Hb1 := Lib.hid (HbA.out.trans (hb1.mono HbA.out.size))
  have Hl1 : Hid (w.heap.size < W1.heap.size) := Nat.lt_of_lt_of_le HltK.out hb1.size
  have Hv1 := Lib.hid (HvA.out.below hb1)
  clear hb1
  clear HN HNB HltB HbB HvA HKA HbA HltK
  have Hsrc := Lib.hid (Hv1.out.src.alloc (.cells #[] 5))
  have Hown := Lib.hid (own_empty W1 W1.heap.size (Nat.le_refl _) 5 1)
  have e6 : (W1.alloc (.cells #[] 5)).cell? ⟨w.heap.size, 6, none⟩ = some (.slice a u.length cap) := (nine_cells (((Below.refl W1.heap.size W1).alloc (Nat.le_refl _) _).block _ Hl1.out |>.trans HK1.out)).2.2.2.2.2.2.1
  rw [rounds_succ]
  go_wp2_with (at_builtin; go_must (refine wpList_append_from rfl _ _ _ rfl W1.heap.size el_u8 rfl Hown.out rfl Hsrc.out (by omega) (by simp) ?_); intro v9 w2 ho9 hg9 hb9)
  have Hv9 := Lib.hid (own_bytes ho9)
  have Hb2 : Hid (Below W1.heap.size W1 w2) := ((Below.refl _ _).alloc (Nat.le_refl _) _).trans hb9
  have HB2 := Lib.hid (Hb1.out.trans (Hb2.out.mono Hb1.out.size))
  have HK2 : Hid (w2.heap[w.heap.size]? = some (.cells (kCells m (.slice a u.length cap) s mg) 26 (0, 0))) := (Hb2.out.block _ Hl1.out).trans HK1.out
  have Hl2 : Hid (w.heap.size < w2.heap.size) := Nat.lt_of_lt_of_le Hl1.out Hb2.out.size
  obtain ⟨a9, c9, rfl, -, -⟩ := Hv9.out.shape
  have HR9 : Hid ((a9 = none ∧ u.length = 0) ∨ ∃ C, a9 = some ⟨C, 0, none⟩ ∧ w.heap.size < C ∧ C < w2.heap.size ∧ ByteRow w2 C u.length) := by
    rcases ho9.2 with ⟨h0, h1⟩ | ⟨g, cp, cur, h0, h1, h2, h3, h4, h5, h6⟩
    · exact .inl ⟨by injection h0, by simpa using h1⟩
    · right
      injection h0 with h0 _ _
      exact ⟨g, h0, Nat.lt_of_lt_of_le Hl1.out h1, (Array.getElem?_eq_some_iff.1 h2).1, cur, h2, by omega⟩
  clear ho9 hg9 hb9 Hown Hsrc e6 Hv1 HK1 Hb1
  refine rn_begin (w2.heap.size) (by kernel_rfl) ?_
  have hA := fun W (hW : Sn w2.heap.size w2.drew W) => nine_cells ((((Below.refl w2.heap.size w2).drew.trans hW).block _ Hl2.out).trans HK2.out)
  refine rn_take (i := 0) rfl (by kernel_rfl) (by kernel_rfl) (by kernel_rfl) (fun _ _ _ h => h) (by rfl) (v := ?_) ?_ ?_
  rotate_left 1
  · intro W hW; go_simp; all_goals with_reducible rfl
  simp only [Act.put, List.setIfInBounds_toArray, List.set_cons_zero, List.set_cons_succ]
  refine rn_take (i := 1) rfl (by kernel_rfl) (by kernel_rfl) (by kernel_rfl) (fun _ _ _ h => h) (by rfl) (v := ?_) ?_ ?_
  rotate_left 1
  · intro W hW; go_simp; all_goals with_reducible rfl
  simp only [Act.put, List.setIfInBounds_toArray, List.set_cons_zero, List.set_cons_succ]
  refine rn_take (i := 3) rfl (by kernel_rfl) (by kernel_rfl) (by kernel_rfl) (fun _ _ _ h => h) (by rfl) (v := ?_) ?_ ?_
  rotate_left 1
  · intro W hW; go_simp; all_goals with_reducible rfl
  simp only [Act.put, List.setIfInBounds_toArray, List.set_cons_zero, List.set_cons_succ]
  refine rn_take (i := 5) rfl (by kernel_rfl) (by kernel_rfl) (by kernel_rfl) (fun _ _ _ h => h) (by rfl) (v := ?_) ?_ ?_
  rotate_left 1
  · intro W hW; go_simp; all_goals with_reducible rfl
  simp only [Act.put, List.setIfInBounds_toArray, List.set_cons_zero, List.set_cons_succ]
  refine rn_take (i := 6) rfl (by kernel_rfl) (by kernel_rfl) (by kernel_rfl) (fun _ _ _ h => h) (by rfl) (v := ?_) ?_ ?_
  rotate_left 1
  · intro W hW; go_simp; all_goals with_reducible rfl
  simp only [Act.put, List.setIfInBounds_toArray, List.set_cons_zero, List.set_cons_succ]
  refine rn_take (i := 7) rfl (by kernel_rfl) (by kernel_rfl) (by kernel_rfl) (fun _ _ _ h => h) (by rfl) (v := ?_) ?_ ?_
  rotate_left 1
  · intro W hW; go_simp; all_goals with_reducible rfl
  simp only [Act.put, List.setIfInBounds_toArray, List.set_cons_zero, List.set_cons_succ]
  refine rn_take (i := 8) rfl (by kernel_rfl) (by kernel_rfl) (by kernel_rfl) (fun _ _ _ h => h) (by rfl) (v := ?_) ?_ ?_
  rotate_left 1
  · intro W hW; go_simp; all_goals with_reducible rfl
  simp only [Act.put, List.setIfInBounds_toArray, List.set_cons_zero, List.set_cons_succ]
  clear hA
  have Hbd : Hid (Below w2.heap.size w2 w2.drew) := (Below.refl _ _).drew
  refine rn_one (i := 2) (by kernel_rfl) ?_
  refine st_made (i := 2) rfl (by rfl) (v := .slice (some ⟨w2.heap.size, 0, none⟩) 0 0) (x := .cells #[] 5) (by go_simp) Hbd.out.size ?_
  intro v81 w6 hv6 hw6 hb6
  have Hown6 : Hid (w6.ownsRow w2.heap.size 5 1 (.slice (some ⟨w2.heap.size, 0, none⟩) 0 0) 0 []) := by rw [hw6]; exact own_empty w2.drew w2.heap.size (Nat.le_refl _) 5 1
  have Hb6 := Lib.hid (Hbd.out.trans hb6)
  have Hsrc6 := Lib.hid (Hv9.out.below Hb6.out).src
  subst hv6
  clear hw6 hb6
  simp only [Act.put, List.setIfInBounds_toArray, List.set_cons_zero, List.set_cons_succ]
  refine rn_append (i := 4) (by kernel_rfl) rfl (by rfl) _ _ _ rfl el_u8 (by rfl) Hown6.out (by rfl) Hsrc6.out (by omega) Hb6.out.size ?_
  intro v83 w7 ho7 hg7 hb7
  have Hb7 := Lib.hid (Hb6.out.trans hb7)
  have Hn7 := Lib.hid (own_new (w0 := w2) ho7 (Nat.le_refl _))
  clear ho7 hg7 hb7
  simp only [Act.put, List.setIfInBounds_toArray, List.set_cons_zero, List.set_cons_succ]
  refine rn_call (i := 9) (by kernel_rfl) rfl (by rfl) (f := 14) (args := ?_) ?_ ?_
  rotate_left 1
  · go_simp; all_goals with_reducible rfl
  by_cases hok : newOk m u.length s.size mg
  rotate_left 1
  · refine (start_no m v83 u s mg w7 Hn7.out.1 hok).mono ?_
    rintro e w8 ⟨rfl, hb8⟩
    have hb8' := hb8.mono Hb7.out.size
    have HB8 := Lib.hid (HB2.out.trans ((Hb7.out.trans hb8').mono HB2.out.size))
    refine ⟨_, rfl, hb8', ?_⟩
    clear hb8 hb8'
    simp only [Act.put, List.setIfInBounds_toArray, List.set_cons_zero, List.set_cons_succ]
    refine rn_take (i := 10) rfl (by kernel_rfl) (by kernel_rfl) (by kernel_rfl) (fun _ _ _ h => h) (by rfl) (v := ?_) ?_ ?_
    rotate_left 1
    · intro W hW; go_simp; all_goals with_reducible rfl
    simp only [Act.put, List.setIfInBounds_toArray, List.set_cons_zero, List.set_cons_succ]
    refine rn_take (i := 11) rfl (by kernel_rfl) (by kernel_rfl) (by kernel_rfl) (fun _ _ _ h => h) (by rfl) (v := ?_) ?_ ?_
    rotate_left 1
    · intro W hW; go_simp; all_goals with_reducible rfl
    simp only [Act.put, List.setIfInBounds_toArray, List.set_cons_zero, List.set_cons_succ]
    refine rn_take (i := 12) rfl (by kernel_rfl) (by kernel_rfl) (by kernel_rfl) (fun _ _ _ h => h) (by rfl) (v := ?_) ?_ ?_
    rotate_left 1
    · intro W hW; go_simp; all_goals with_reducible rfl
    simp only [Act.put, List.setIfInBounds_toArray, List.set_cons_zero, List.set_cons_succ]
    refine rn_take (i := 13) rfl (by kernel_rfl) (by kernel_rfl) (by kernel_rfl) (fun _ _ _ h => h) (by rfl) (v := ?_) ?_ ?_
    rotate_left 1
    · intro W hW; go_simp; all_goals with_reducible rfl
    simp only [Act.put, List.setIfInBounds_toArray, List.set_cons_zero, List.set_cons_succ]
    refine rn_take (i := 14) rfl (by kernel_rfl) (by kernel_rfl) (by kernel_rfl) (fun _ _ _ h => h) (by rfl) (v := ?_) ?_ ?_
    rotate_left 1
    · intro W hW; go_simp; all_goals with_reducible rfl
    simp only [Act.put, List.setIfInBounds_toArray, List.set_cons_zero, List.set_cons_succ]
    refine rn_done (by kernel_rfl) ?_
    go_wp2_with (go_at_call 15; refine (HAW.out _).mono ?_; rintro e w9 ⟨rfl, hb9⟩; have HB9 := Lib.hid (HB8.out.trans (hb9.mono HB8.out.size)); clear hb9)
    go_ret
    exact ⟨rfl, HB9.out⟩
  · obtain ⟨a83, c83, rfl, -, -⟩ := Hn7.out.1.shape
    have hk1 : (u.length : Int) ≤ 64 := by have := hok.2.1; omega
    have Hok := Lib.hid hok
    refine (start_yes m (.slice a83 u.length c83) u s mg w7 Hn7.out.1 hok).mono ?_
    rintro e w8 ⟨B, B2, cv, rfl, hboth⟩
    have HBo := Lib.hid hboth
    have hb8' := hboth.bel.mono Hb7.out.size
    have Hb8 := Lib.hid (Hb7.out.trans hb8')
    have HB8 := Lib.hid (HB2.out.trans (Hb8.out.mono HB2.out.size))
    refine ⟨_, rfl, hb8', ?_⟩
    clear hb8' hboth hok
    simp only [Act.put, List.setIfInBounds_toArray, List.set_cons_zero, List.set_cons_succ]
    refine rn_take (i := 10) rfl (by kernel_rfl) (by kernel_rfl) (by kernel_rfl) (fun _ _ _ h => h) (by rfl) (v := ?_) ?_ ?_
    rotate_left 1
    · intro W hW; go_simp; all_goals with_reducible rfl
    simp only [Act.put, List.setIfInBounds_toArray, List.set_cons_zero, List.set_cons_succ]
    refine rn_take (i := 11) rfl (by kernel_rfl) (by kernel_rfl) (by kernel_rfl) (fun _ _ _ h => h) (by rfl) (v := ?_) ?_ ?_
    rotate_left 1
    · intro W hW; go_simp; all_goals with_reducible rfl
    simp only [Act.put, List.setIfInBounds_toArray, List.set_cons_zero, List.set_cons_succ]
    refine rn_take (i := 12) rfl (by kernel_rfl) (by kernel_rfl) (by kernel_rfl) (fun _ _ _ h => h) (by rfl) (v := ?_) ?_ ?_
    rotate_left 1
    · intro W hW; go_simp; all_goals with_reducible rfl
    simp only [Act.put, List.setIfInBounds_toArray, List.set_cons_zero, List.set_cons_succ]
    refine rn_take (i := 13) rfl (by kernel_rfl) (by kernel_rfl) (by kernel_rfl) (fun _ _ _ h => h) (by rfl) (v := ?_) ?_ ?_
    rotate_left 1
    · intro W hW; go_simp; all_goals with_reducible rfl
    simp only [Act.put, List.setIfInBounds_toArray, List.set_cons_zero, List.set_cons_succ]
    refine rn_take (i := 14) rfl (by kernel_rfl) (by kernel_rfl) (by kernel_rfl) (fun _ _ _ h => h) (by rfl) (v := ?_) ?_ ?_
    rotate_left 1
    · intro W hW; go_simp; all_goals with_reducible rfl
    simp only [Act.put, List.setIfInBounds_toArray, List.set_cons_zero, List.set_cons_succ]
    refine rn_done (by kernel_rfl) ?_
    go_wp2_with (go_at_call 15; refine (HAW.out _).mono ?_; rintro e w9 ⟨rfl, hb9⟩; have Hb9 := Lib.hid hb9; clear hb9)
    have Hb29 := Lib.hid (Hb8.out.trans (Hb9.out.mono Hb8.out.size))
    have HB9 := Lib.hid (HB2.out.trans (Hb29.out.mono HB2.out.size))
    have HK9 := Lib.hid ((Hb29.out.block _ Hl2.out).trans HK2.out)
    have Hl9 := Lib.hid (Nat.lt_of_lt_of_le Hl2.out Hb29.out.size)
    have hlt8 := (Array.getElem?_eq_some_iff.1 HBo.out.hb).1
    have HT9 := Lib.hid ((Hb9.out.block _ hlt8).trans HBo.out.hb)
    have Hv99 := Lib.hid (Hv9.out.below Hb29.out)
    have Hlt9 := Lib.hid (Nat.lt_of_lt_of_le hlt8 Hb9.out.size)
    clear hlt8
    refine rn_begin (w9.heap.size) (by kernel_rfl) ?_
    have hA := fun W (hW : Sn w9.heap.size w9.drew W) => nine_cells ((((Below.refl w9.heap.size w9).drew.trans hW).block _ Hl9.out).trans HK9.out)
    have hS : ∀ W, Sn w9.heap.size w9.drew W → W.cell? ⟨B2, 8, none⟩ = some (.string s) := fun W hW => by rw [cell_of_row W _ 8 _ _ _ ((((Below.refl w9.heap.size w9).drew.trans hW).block _ Hlt9.out).trans HT9.out)]; rfl
    refine rn_take (i := 0) rfl (by kernel_rfl) (by kernel_rfl) (by kernel_rfl) (fun _ _ _ h => h) (by rfl) (v := ?_) ?_ ?_
    rotate_left 1
    · intro W hW; go_simp; all_goals with_reducible rfl
    simp only [Act.put, List.setIfInBounds_toArray, List.set_cons_zero, List.set_cons_succ]
    refine rn_take (i := 1) rfl (by kernel_rfl) (by kernel_rfl) (by kernel_rfl) (fun _ _ _ h => h) (by rfl) (v := ?_) ?_ ?_
    rotate_left 1
    · intro W hW; go_simp; all_goals with_reducible rfl
    simp only [Act.put, List.setIfInBounds_toArray, List.set_cons_zero, List.set_cons_succ]
    refine rn_take (i := 2) rfl (by kernel_rfl) (by kernel_rfl) (by kernel_rfl) (fun _ _ _ h => h) (by rfl) (v := ?_) ?_ ?_
    rotate_left 1
    · intro W hW; go_simp; all_goals with_reducible rfl
    simp only [Act.put, List.setIfInBounds_toArray, List.set_cons_zero, List.set_cons_succ]
    refine rn_take (i := 3) rfl (by kernel_rfl) (by kernel_rfl) (by kernel_rfl) (fun _ _ _ h => h) (by rfl) (v := ?_) ?_ ?_
    rotate_left 1
    · intro W hW; go_simp; all_goals with_reducible rfl
    simp only [Act.put, List.setIfInBounds_toArray, List.set_cons_zero, List.set_cons_succ]
    refine rn_take (i := 4) rfl (by kernel_rfl) (by kernel_rfl) (by kernel_rfl) (fun _ _ _ h => h) (by rfl) (v := ?_) ?_ ?_
    rotate_left 1
    · intro W hW; go_simp; all_goals with_reducible rfl
    simp only [Act.put, List.setIfInBounds_toArray, List.set_cons_zero, List.set_cons_succ]
    refine rn_take (i := 5) rfl (by kernel_rfl) (by kernel_rfl) (by kernel_rfl) (fun _ _ _ h => h) (by rfl) (v := ?_) ?_ ?_
    rotate_left 1
    · intro W hW; go_simp; all_goals with_reducible rfl
    simp only [Act.put, List.setIfInBounds_toArray, List.set_cons_zero, List.set_cons_succ]
    refine rn_take (i := 6) rfl (by kernel_rfl) (by kernel_rfl) (by kernel_rfl) (fun _ _ _ h => h) (by rfl) (v := ?_) ?_ ?_
    rotate_left 1
    · intro W hW; go_simp; all_goals with_reducible rfl
    simp only [Act.put, List.setIfInBounds_toArray, List.set_cons_zero, List.set_cons_succ]
    refine rn_take (i := 7) rfl (by kernel_rfl) (by kernel_rfl) (by kernel_rfl) (fun _ _ _ h => h) (by rfl) (v := ?_) ?_ ?_
    rotate_left 1
    · intro W hW; go_simp; all_goals with_reducible rfl
    simp only [Act.put, List.setIfInBounds_toArray, List.set_cons_zero, List.set_cons_succ]
    refine rn_take (i := 8) rfl (by kernel_rfl) (by kernel_rfl) (by kernel_rfl) (fun _ _ _ h => h) (by rfl) (v := ?_) ?_ ?_
    rotate_left 1
    · intro W hW; go_simp; all_goals with_reducible rfl
    simp only [Act.put, List.setIfInBounds_toArray, List.set_cons_zero, List.set_cons_succ]
    refine rn_take (i := 9) rfl (by kernel_rfl) (by kernel_rfl) (by kernel_rfl) (fun _ _ _ h => h) (by rfl) (v := ?_) ?_ ?_
    rotate_left 1
    · intro W hW; go_simp; all_goals with_reducible rfl
    simp only [Act.put, List.setIfInBounds_toArray, List.set_cons_zero, List.set_cons_succ]
    clear hA hS
    have Hbd9 : Hid (Below w9.heap.size w9 w9.drew) := (Below.refl _ _).drew
    refine rn_call (i := 10) (by kernel_rfl) rfl (by rfl) (f := 16) (args := ?_) ?_ ?_
    rotate_left 1
    · go_simp; all_goals with_reducible rfl
    refine (new_new m (.slice a9 u.length c9) u s mg w9.drew (Hv99.out.below Hbd9.out) Hok.out).mono ?_
    rintro e w10 ⟨B3, cv3, rfl, q1, q2, q3, q4⟩
    have q4' := q4.mono Hbd9.out.size
    have Hb10 := Lib.hid (Hbd9.out.trans q4')
    have HC10 := Lib.hid q2
    have HQ10 := Lib.hid q3
    have HB3 : Hid (w9.heap.size ≤ B3) := Nat.le_trans Hbd9.out.size q1
    refine ⟨_, rfl, q4', ?_⟩
    clear q1 q2 q3 q4 q4'
    simp only [Act.put, List.setIfInBounds_toArray, List.set_cons_zero, List.set_cons_succ]
    refine rn_take (i := 11) rfl (by kernel_rfl) (by kernel_rfl) (by kernel_rfl) (fun _ _ _ h => h) (by rfl) (v := ?_) ?_ ?_
    rotate_left 1
    · intro W hW; go_simp; all_goals with_reducible rfl
    simp only [Act.put, List.setIfInBounds_toArray, List.set_cons_zero, List.set_cons_succ]
    refine rn_take (i := 12) rfl (by kernel_rfl) (by kernel_rfl) (by kernel_rfl) (fun _ _ _ h => h) (by rfl) (v := ?_) ?_ ?_
    rotate_left 1
    · intro W hW; go_simp; all_goals with_reducible rfl
    simp only [Act.put, List.setIfInBounds_toArray, List.set_cons_zero, List.set_cons_succ]
    refine rn_take (i := 13) rfl (by kernel_rfl) (by kernel_rfl) (by kernel_rfl) (fun _ _ _ h => h) (by rfl) (v := ?_) ?_ ?_
    rotate_left 1
    · intro W hW; go_simp; all_goals with_reducible rfl
    simp only [Act.put, List.setIfInBounds_toArray, List.set_cons_zero, List.set_cons_succ]
    refine rn_take (i := 14) rfl (by kernel_rfl) (by kernel_rfl) (by kernel_rfl) (fun _ _ _ h => h) (by rfl) (v := ?_) ?_ ?_
    rotate_left 1
    · intro W hW; go_simp; all_goals with_reducible rfl
    simp only [Act.put, List.setIfInBounds_toArray, List.set_cons_zero, List.set_cons_succ]
    refine rn_take (i := 15) rfl (by kernel_rfl) (by kernel_rfl) (by kernel_rfl) (fun _ _ _ h => h) (by rfl) (v := ?_) ?_ ?_
    rotate_left 1
    · intro W hW; go_simp; all_goals with_reducible rfl
    simp only [Act.put, List.setIfInBounds_toArray, List.set_cons_zero, List.set_cons_succ]
    refine rn_done (by kernel_rfl) ?_
    go_wp2
    have Hk := Lib.hid hk1
    go_loopw [14] (fun i wr => TurnRel w10 a9 u.length i wr) (fun i _ => u.length - (intOf i).toNat)
    case atStart =>
      refine ⟨0, rfl, Nat.zero_le _, ?_⟩
      rcases HR9.out with ⟨_, h0⟩ | ⟨C, h1, h2, h3, cur, h4, h5⟩
      · exact .inl ⟨h0, rfl⟩
      · have h6 : w2.heap.size ≤ w9.heap.size := Hb29.out.size
        have h7 : w9.heap.size ≤ w10.heap.size := Hb10.out.size
        refine .inr ⟨C, h1, ⟨rfl, rfl, rfl, Nat.le_refl _, fun _ _ _ => rfl⟩, cur, ?_, h5⟩
        exact (Hb10.out.block C (by omega)).trans ((Hb29.out.block C h3).trans h4)
    case round =>
      obtain ⟨k, rfl, hkn, hcase⟩ := hrel
      by_cases hlt : k < u.length
      · rcases hcase with ⟨h0, _⟩ | ⟨C, rfl, hbut, hrow⟩
        · omega
        have hlt' : (k : Int) < u.length := by omega
        obtain ⟨p1, p2, p3, p4⟩ := hrow.put hlt (.int .u8 x)
        obtain ⟨v0, hv0⟩ := Option.isSome_iff_exists.1 p1
        have P3 := Lib.hid p3
        have P4 := Lib.hid (hbut.then p4)
        clear p1 p3 p4 hbut hrow
        go_wp2
        go_roundw
        case rel => exact ⟨k + 1, by go_num, hlt, .inr ⟨C, rfl, P4.out, P3.out⟩⟩
        case measure => simp [intOf]; omega
      · obtain rfl : k = u.length := by omega
        have Hcase := Lib.hid hcase
        clear hcase
        have Hcut : Hid (wr = w10 ∨ ∃ C, w.heap.size < C ∧ C < w2.heap.size ∧ But C w10 wr) := by
          rcases Hcase.out with ⟨_, h⟩ | ⟨C, hC, hbut, _⟩
          · exact .inl h
          · rcases HR9.out with ⟨h, _⟩ | ⟨C', h1, h2, h3, _⟩
            · rw [hC] at h; cases h
            · rw [hC] at h1; cases h1; exact .inr ⟨C, h2, h3, hbut⟩
        have s27 : w2.heap.size ≤ w7.heap.size := Hb7.out.size
        have s29 : w2.heap.size ≤ w9.heap.size := Hb29.out.size
        have s90 : w9.heap.size ≤ w10.heap.size := Hb10.out.size
        have s2B := HBo.out.lo
        have sBB := HBo.out.lt
        have hlB3 := (Array.getElem?_eq_some_iff.1 HC10.out).1
        have hlB2 := Hlt9.out
        have hB3 := HB3.out
        have HB10 := Lib.hid (HB9.out.trans (Hb10.out.mono HB9.out.size))
        have KEEP : ∀ b, b < w10.heap.size → w2.heap.size ≤ b → wr.heap[b]? = w10.heap[b]? := fun b h1 h2 => by
          rcases Hcut.out with rfl | ⟨C, _, hC, hbut⟩
          · rfl
          · exact hbut.block b h1 (by omega)
        have HBr : Hid (Below w.heap.size w wr) := by
          rcases Hcut.out with rfl | ⟨C, hC1, hC, hbut⟩
          · exact HB10.out
          · exact HB10.out.trans ((hbut.below (by omega)).mono (Nat.le_of_lt hC1))
        have HTr := Lib.hid ((KEEP B2 (by omega) (by omega)).trans ((Hb10.out.block _ hlB2).trans HT9.out))
        have HCr := Lib.hid ((KEEP B3 hlB3 (by omega)).trans HC10.out)
        have sr : w10.heap.size ≤ wr.heap.size := by
          rcases Hcut.out with rfl | ⟨C, _, hC, hbut⟩
          · exact Nat.le_refl _
          · exact hbut.size
        have sd : w9.heap.size ≤ w9.drew.heap.size := (Below.refl w9.heap.size w9).drew.size
        have HQr : Hid (∃ wq', wq'.heap.size = B3 ∧ IsBytes wq' cv3 u ∧ Below B3 wq' wr) := by
          obtain ⟨wq, h1, h2, h3⟩ := HQ10.out
          rcases Hcut.out with rfl | ⟨C, _, hC, hbut⟩
          · exact ⟨wq, h1, h2.1, h3⟩
          · exact trunc_bytes h1 h2 h3 (C := C) (by omega) hbut.block hbut.size
        have Hn10 := Lib.hid (((Hn7.out.below HBo.out.bel).below Hb9.out).below Hb10.out)
        have HYr : Hid (IsBytes wr (.slice a83 u.length c83) u) := by
          rcases Hcut.out with rfl | ⟨C, _, hC, hbut⟩
          · exact Hn10.out.1
          · exact Hn10.out.kept hC hbut.block
        have hB3r : B3 < wr.heap.size := Nat.lt_of_lt_of_le hlB3 sr
        have HB3r := Lib.hid hB3r
        have hu100 : u.length ≤ 100 := by omega
        have hs100 : s.size ≤ 100 := by have := Hok.out.2.2.1; omega
        obtain ⟨D, hD⟩ : ∃ D, D = discL m bcast 9 0 (tagsOf u s.data.toList) := ⟨_, rfl⟩
        have HRB := Lib.hid (hD ▸ rbegin_first m (.slice a83 u.length c83) u s mg wr hu100 hs100 HYr.out)
        have HBF := Lib.hid (fun w h1' h2' => hD ▸ begin_first B3 m cv3 u s mg w hu100 hs100 h1' h2')
        have HONE := Lib.hid (rc_one m a83 u.length c83 s mg 1)
        have heq : ((⟨D.toArray⟩ : ByteArray).toList == (⟨D.toArray⟩ : ByteArray).toList) = true := by simp
        clear hD KEEP s27 s29 s90 s2B sBB hlB3 hlB2 hB3 sr sd hB3r
        go_wp2_with (first
          | (have x := HZ.out; clear x
             show wpList _ _ _ (Oper.mk none (Op.store _ _ _) _ _ _ _ :: _) _ _
             go_must (refine wpList_store_rc rfl _ _ rfl rfl (cs := rCells m (.slice a83 u.length c83) s mg 1) rfl HZ.out rfl rfl HONE.out ?_)
             intro w13 hb13 hbut13
             have Hb13 : Hid (Below w12.heap.size w12 w13) := ((Below.refl _ _).alloc (Nat.le_refl _) _).trans (hbut13.below (by simp))
             clear hb13 hbut13 HZ)
          | (have x := HTr.out; clear x; refine wpList_load_part rfl _ rfl rfl HTr.out ?_)
          | (go_at_call 17; refine HRB.out.mono ?_; rintro e w12 ⟨y, rfl, hb12, hy⟩
             have Hb12 := Lib.hid hb12
             have HY12 := Lib.hid hy
             have HZ := Lib.hid (heap_alloc_new w12 (.cells rZero 53))
             clear hb12 hy))
        have Hbr13 := Lib.hid (Hb12.out.trans (Hb13.out.mono Hb12.out.size))
        have Hbd13 : Hid (Below w13.heap.size w13 w13.drew) := (Below.refl _ _).drew
        have HbrD := Lib.hid (Hbr13.out.trans (Hbd13.out.mono Hbr13.out.size))
        have HYD := Lib.hid ((HY12.out.below Hb13.out).below Hbd13.out)
        have HCD := Lib.hid ((HbrD.out.block _ HB3r.out).trans HCr.out)
        have HQD : Hid (∃ wq', wq'.heap.size = B3 ∧ IsBytes wq' cv3 u ∧ Below B3 wq' w13.drew) := by
          obtain ⟨wq', h1, h2, h3⟩ := HQr.out
          exact ⟨wq', h1, h2, h3.trans (HbrD.out.mono (Nat.le_of_lt HB3r.out))⟩
        have HBD := Lib.hid (HBr.out.trans (HbrD.out.mono HBr.out.size))
        refine rn_begin B3 (by kernel_rfl) ?_
        refine rn_take (i := 0) rfl (by kernel_rfl) (by kernel_rfl) (by kernel_rfl) (fun _ _ _ h => h) (by rfl) (v := ?_) ?_ ?_
        rotate_left 1
        · intro W hW; go_simp; all_goals with_reducible rfl
        simp only [Act.put, List.setIfInBounds_toArray, List.set_cons_zero, List.set_cons_succ]
        refine rn_take (i := 3) rfl (by kernel_rfl) (by kernel_rfl) (by kernel_rfl) (fun _ _ _ h => h) (by rfl) (v := ?_) ?_ ?_
        rotate_left 1
        · intro W hW; go_simp; all_goals with_reducible rfl
        simp only [Act.put, List.setIfInBounds_toArray, List.set_cons_zero, List.set_cons_succ]
        have hwB3 : w.heap.size ≤ B3 := Nat.le_trans HB9.out.size HB3.out
        have sz : B3 ≤ w13.drew.heap.size := Nat.le_of_lt (Array.getElem?_eq_some_iff.1 HCD.out).1
        refine rn_two (i := 1) (j := 4) (by kernel_rfl) ?_ ?_
        · refine st_call2 (i := 1) rfl (by rfl) (f := 5) (args := #[.pointer (some ⟨B3, 0, none⟩)]) (by go_simp) ?_
          refine (HBF.out w13.drew HCD.out HQD.out).mono ?_
          rintro e w14 ⟨v14, rfl, hbut14, hc14, hx14⟩
          have HX14 := Lib.hid hx14.1
          have HB14 := Lib.hid (HBD.out.trans ((hbut14.below sz).mono hwB3))
          have HY14 := Lib.hid (HYD.out.kept (C := B3) HB3r.out hbut14.block)
          refine ⟨v14, w14.heap.size, rfl, Nat.le_trans sz hbut14.size, hbut14.below sz, ?_⟩
          clear hbut14 hc14 hx14
          simp only [Act.put, List.setIfInBounds_toArray, List.set_cons_zero, List.set_cons_succ]
          have hX := fun W (hW : Sn w14.heap.size w14 W) => run_string_bytes (P := Tryz.prog) el_u8.ht (by kernel_rfl) (dst := 9) (by kernel_rfl) (HX14.out.below hW)
          have hY := fun W (hW : Sn w14.heap.size w14 W) => run_string_bytes (P := Tryz.prog) el_u8.ht (by kernel_rfl) (dst := 9) (by kernel_rfl) (HY14.out.below hW)
          refine rn_take (i := 2) rfl (by kernel_rfl) (by kernel_rfl) (by kernel_rfl) (fun _ _ _ h => h) (by rfl) (v := ?_) ?_ ?_
          rotate_left 1
          · intro W hW; go_simp; all_goals with_reducible rfl
          simp only [Act.put, List.setIfInBounds_toArray, List.set_cons_zero, List.set_cons_succ]
          refine rn_take (i := 4) rfl (by kernel_rfl) (by kernel_rfl) (by kernel_rfl) (fun _ _ _ h => h) (by rfl) (v := ?_) ?_ ?_
          rotate_left 1
          · intro W hW; go_simp; all_goals with_reducible rfl
          simp only [Act.put, List.setIfInBounds_toArray, List.set_cons_zero, List.set_cons_succ]
          refine rn_take (i := 5) rfl (by kernel_rfl) (by kernel_rfl) (by kernel_rfl) (fun _ _ _ h => h) (by rfl) (v := ?_) ?_ ?_
          rotate_left 1
          · intro W hW; go_simp; all_goals with_reducible rfl
          simp only [Act.put, List.setIfInBounds_toArray, List.set_cons_zero, List.set_cons_succ]
          refine rn_take (i := 6) rfl (by kernel_rfl) (by kernel_rfl) (by kernel_rfl) (fun _ _ _ h => h) (by rfl) (v := ?_) ?_ ?_
          rotate_left 1
          · intro W hW; go_simp; all_goals with_reducible rfl
          simp only [Act.put, List.setIfInBounds_toArray, List.set_cons_zero, List.set_cons_succ]
          refine rn_done (by kernel_rfl) ?_
          go_wp2
          all_goals go_ret
          all_goals exact ⟨rfl, HB14.out⟩
        · have hY0 := run_string_bytes (P := Tryz.prog) el_u8.ht (by kernel_rfl) (dst := 9) (by kernel_rfl) HYD.out.1
          refine st_make (i := 4) rfl (by rfl) (v := .string ⟨D.toArray⟩) (w' := w13.drew) (by go_simp) (Below.refl _ _) ?_
          clear hY0
          simp only [Act.put, List.setIfInBounds_toArray, List.set_cons_zero, List.set_cons_succ]
          refine rn_one (i := 1) (by kernel_rfl) ?_
          refine st_call2 (i := 1) rfl (by rfl) (f := 5) (args := #[.pointer (some ⟨B3, 0, none⟩)]) (by go_simp) ?_
          refine (HBF.out w13.drew HCD.out HQD.out).mono ?_
          rintro e w14 ⟨v14, rfl, hbut14, hc14, hx14⟩
          have HX14 := Lib.hid hx14.1
          have HB14 := Lib.hid (HBD.out.trans ((hbut14.below sz).mono hwB3))
          refine ⟨v14, w14.heap.size, rfl, Nat.le_trans sz hbut14.size, hbut14.below sz, ?_⟩
          clear hbut14 hc14 hx14
          simp only [Act.put, List.setIfInBounds_toArray, List.set_cons_zero, List.set_cons_succ]
          have hX := fun W (hW : Sn w14.heap.size w14 W) => run_string_bytes (P := Tryz.prog) el_u8.ht (by kernel_rfl) (dst := 9) (by kernel_rfl) (HX14.out.below hW)
          refine rn_take (i := 2) rfl (by kernel_rfl) (by kernel_rfl) (by kernel_rfl) (fun _ _ _ h => h) (by rfl) (v := ?_) ?_ ?_
          rotate_left 1
          · intro W hW; go_simp; all_goals with_reducible rfl
          simp only [Act.put, List.setIfInBounds_toArray, List.set_cons_zero, List.set_cons_succ]
          refine rn_take (i := 5) rfl (by kernel_rfl) (by kernel_rfl) (by kernel_rfl) (fun _ _ _ h => h) (by rfl) (v := ?_) ?_ ?_
          rotate_left 1
          · intro W hW; go_simp; all_goals with_reducible rfl
          simp only [Act.put, List.setIfInBounds_toArray, List.set_cons_zero, List.set_cons_succ]
          refine rn_take (i := 6) rfl (by kernel_rfl) (by kernel_rfl) (by kernel_rfl) (fun _ _ _ h => h) (by rfl) (v := ?_) ?_ ?_
          rotate_left 1
          · intro W hW; go_simp; all_goals with_reducible rfl
          simp only [Act.put, List.setIfInBounds_toArray, List.set_cons_zero, List.set_cons_succ]
          refine rn_done (by kernel_rfl) ?_
          go_wp2
          all_goals go_ret
          all_goals exact ⟨rfl, HB14.out⟩
end Go.Proofs.YtokiedeiamlnlaaGreat
