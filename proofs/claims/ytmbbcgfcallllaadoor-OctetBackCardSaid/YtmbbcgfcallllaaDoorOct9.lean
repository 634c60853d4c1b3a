/- awake: the examples of law 1. -/
import Derived.Test.YtmbbcgfcallllaaDoorOct8
namespace Go.Proofs.YtmbbcgfcallllaaDoor
open Go.RowKit
set_option maxRecDepth 10000

theorem parse_example (m : Int) (w : World) (hm : w.cell? ⟨0, 0, none⟩ = some (.int .i64 m)) :
    Calls Tryd.prog 20 #[.string { data := #[48, 50, 58, 48, 48, 58, 48, 48, 58, 48, 48, 58, 48, 48, 58, 97, 98] }] w fun e w' => e = .returned (.tuple #[macV 2 0 0 0 0 171, .int .i64 0]) ∧ Below w.heap.size w w' := by
  refine (parse_any _ (by decide) m w hm).mono ?_
  rintro e w' ⟨hb, ⟨m, hp, rfl⟩ | ⟨hp, rfl⟩⟩
  · have h : parseOf [48, 50, 58, 48, 48, 58, 48, 48, 58, 48, 48, 58, 48, 48, 58, 97, 98] = some [2, 0, 0, 0, 0, 171] := by decide
    rw [h] at hp
    cases hp
    exact ⟨rfl, hb⟩
  · have h : parseOf [48, 50, 58, 48, 48, 58, 48, 48, 58, 48, 48, 58, 48, 48, 58, 97, 98] = some [2, 0, 0, 0, 0, 171] := by decide
    rw [h] at hp
    cases hp
theorem unhex_example (w : World) :
    Calls Tryd.prog 13 #[.string { data := #[48] }] w fun e w' => e = .returned (.tuple #[.slice none 0 0, .int .i64 10]) ∧ Below w.heap.size w w' := by
  refine (unhex_any _ (by decide) w).mono ?_
  have h : unhexOf [48] = none := by decide
  rintro e w' ⟨hb, ⟨r, v, hp, _⟩ | ⟨hp, rfl⟩⟩
  · rw [h] at hp; cases hp
  · exact ⟨rfl, hb⟩

theorem kind_example (w : World) :
    Calls Tryd.prog 24 #[macV 2 0 0 0 0 171] w fun e w' => e = .returned (.int .i64 4) ∧ Below w.heap.size w w' := by
  have h : kindN 2 0 0 0 0 171 = 4 := by decide
  rw [← h]
  exact kind_any 2 0 0 0 0 171 w
theorem equal_example (w : World) :
    Calls Tryd.prog 10 #[.slice (some ⟨w.heap.size, 0, none⟩) 1 1, .slice (some ⟨w.heap.size + 1, 0, none⟩) 1 1] ((w.alloc (.cells #[.int .u8 97] 5 (1, 2))).alloc (.cells #[.int .u8 97] 5 (1, 2))) fun e w' => e = .returned (.bool true) ∧ Below w.heap.size w w' := by
  obtain ⟨h1, h2, h3⟩ := alloc2 w (.cells #[.int .u8 97] 5 (1, 2)) (.cells #[.int .u8 97] 5 (1, 2))
  refine (equal_any _ _ _ [97] [97] (bytes_block [97] 1 h1 (by simp) (by simp [maxLen])) (bytes_block [97] 1 h2 (by simp) (by simp [maxLen]))).mono ?_
  rintro e w' ⟨rfl, n, rfl⟩
  exact ⟨rfl, below_drewN' (((Below.refl _ _).alloc (Nat.le_refl _) _).alloc (by simp) _) n⟩

theorem awake_true (m : Int) (w : World) (hm : w.cell? ⟨0, 0, none⟩ = some (.int .i64 m)) :
    Calls Tryd.prog 11 #[] w fun e w' => e = .returned (.bool true) ∧ Below w.heap.size w w' := by
  have Hm := Lib.hid hm
  have h0 := World.block_lt_of_cell? w _ hm
  clear hm
  have hq := run_eql_mac
  have kc : ∀ W : World, (convert 22 22 (.slice (some ⟨W.heap.size, 0, none⟩) 1 1)).run Tryd.prog (W.alloc (.cells #[.int .u8 97] 5)) = .ok (.slice (some ⟨W.heap.size, 0, none⟩) 1 1) (W.alloc (.cells #[.int .u8 97] 5 (1, 2))) :=
    fun W => Lib.run_convert_bytes_const (P := Tryd.prog) W 22 5 #[.int .u8 97] 1 1 el_u8.ht (by kernel_rfl)
  have kc2 : ∀ (W : World) (o : Obj), (convert 22 22 (.slice (some ⟨W.heap.size + 1, 0, none⟩) 1 1)).run Tryd.prog ((W.alloc o).alloc (.cells #[.int .u8 97] 5)) = .ok (.slice (some ⟨W.heap.size + 1, 0, none⟩) 1 1) ((W.alloc o).alloc (.cells #[.int .u8 97] 5 (1, 2))) := by
    intro W o
    have := kc (W.alloc o)
    rwa [World.size_alloc] at this
  go_enter Tryd.func11, Tryd.ntmps11
  have hbe : be 258 3 = [0, 1, 2] := by decide
  have Hbe := Lib.hid hbe
  clear hbe
  go_wp2_with (first
    | (go_at_call 20; refine (parse_example m _ Hm.out).mono ?_; rintro e w1 ⟨rfl, hb1⟩)
    | (go_at_call 13; refine (unhex_example _).mono ?_; rintro e w2 ⟨rfl, hb2⟩)
    | (go_at_call 12; refine (put_any 258 (by decide) 3 (by decide) (by decide) _).mono ?_; rintro e w3 ⟨v3, rfl, hb3, ho3⟩; rw [Hbe.out] at ho3; have hcv := run_string_bytes (P := Tryd.prog) el_u8.ht (by kernel_rfl) (dst := 9) (by kernel_rfl) (own_bytes ho3); have hs2 := hb2.size; have hs3 := hb3.size; rw [World.size_alloc] at hs2; have hm3 := (hb3.block w1.heap.size (by omega)).trans ((hb2.block w1.heap.size (by rw [World.size_alloc]; omega)).trans (heap_alloc_new w1 _)); obtain ⟨m0, m1, m2, m3, m4, m5, -⟩ := six_cells hm3; have HB := Lib.hid ((hb1.trans ((((Below.refl w.heap.size w1).alloc (by have := hb1.size; omega) _).trans (hb2.mono (by rw [World.size_alloc]; have := hb1.size; omega))).trans (hb3.mono (by have := hb1.size; omega))))); clear hm3 ho3 hb3 hb2 hb1)
    | (go_at_call 24; refine (kind_example _).mono ?_; rintro e w4 ⟨rfl, hb4⟩)
    | (go_at_call 10; refine (equal_example _).mono ?_; rintro e w5 ⟨rfl, hb5⟩))
  go_ret
  exact ⟨rfl, HB.out.trans ((hb4.trans (hb5.mono hb4.size)).mono HB.out.size)⟩
end Go.Proofs.YtmbbcgfcallllaaDoor
