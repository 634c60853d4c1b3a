/- The walk of OctetEqual. -/
import Derived.Test.YtmbbcgfcallllaaDoorOct9
namespace Go.Proofs.YtmbbcgfcallllaaDoor
open Go.RowKit
set_option maxRecDepth 10000

theorem equal_below {w : World} {v v' : Value} {l l' : List UInt8} (hv : IsBytes w v l) (hv' : IsBytes w v' l') :
    Calls Tryd.prog 10 #[v, v'] w fun e w' => e = .returned (.bool (l == l')) ∧ Below w.heap.size w w' := by
  refine (equal_any w v v' l l' hv hv').mono ?_
  rintro e w' ⟨rfl, n, rfl⟩
  exact ⟨rfl, below_drewN' (Below.refl _ _) n⟩

theorem lawEqual (v v' : Value) (l l' : List UInt8) (m : Int) (w : World) (hv : IsBytes w v l) (hv' : IsBytes w v' l') (hm : w.cell? ⟨0, 0, none⟩ = some (.int .i64 m)) :
    Calls Tryd.prog 3 #[v, v'] w fun e w' => e = .returned (.bool true) ∧ Below w.heap.size w w' := by
  have Hv := Lib.hid hv
  have Hv' := Lib.hid hv'
  have Hm := Lib.hid hm
  clear hv hv' hm
  have hconv : ∀ W : World, Below w.heap.size w W → ∀ u ls, IsBytes w u ls → (convert 22 9 u).run Tryd.prog W = .ok (.string ⟨ls.toArray⟩) W := by
    intro W hW u ls hu
    exact run_string_bytes (P := Tryd.prog) el_u8.ht (by kernel_rfl) (dst := 9) (by kernel_rfl) (hu.below hW)
  have Hconv := Lib.hid hconv
  clear hconv
  go_enter Tryd.func3, Tryd.ntmps3
  go_wp2_with (first
    | (go_at_call_of 9 v; refine (cut_any _ v l Hv.out).mono ?_; rintro e w1 ⟨rfl, u, rfl, hu⟩)
    | (go_at_call_of 9 v'; refine (cut_any _ v' l' Hv'.out).mono ?_; rintro e w1 ⟨rfl, u', rfl, hu'⟩))
  have Hu := Lib.hid hu
  have Hu' := Lib.hid hu'
  clear hu hu'
  generalize l.take 2000 = L at *
  generalize l'.take 2000 = L' at *
  have hS : ∀ W : World, Below w.heap.size w W → Below w.heap.size w W ∧ (convert 22 9 u).run Tryd.prog W = .ok (.string ⟨L.toArray⟩) W ∧ (convert 22 9 u').run Tryd.prog W = .ok (.string ⟨L'.toArray⟩) W :=
    fun W hW => ⟨hW, Hconv.out W hW u L Hu.out, Hconv.out W hW u' L' Hu'.out⟩
  have HS := Lib.hid hS
  clear hS
  have heq : ((⟨L.toArray⟩ : ByteArray).toList == (⟨L'.toArray⟩ : ByteArray).toList) = (L == L') := str_beq L L'
  go_region_held3 (fun W => Below w.heap.size w W ∧ (convert 22 9 u).run Tryd.prog W = .ok (.string ⟨L.toArray⟩) W ∧ (convert 22 9 u').run Tryd.prog W = .ok (.string ⟨L'.toArray⟩) W)
    (first | exact HS.out _ (Below.refl _ _) | exact HS.out _ (below_drewN' (Below.refl _ _) _) | exact HS.out _ (Below.drew (Below.refl _ _)) | exact HS.out _ (below_next (by assumption) (by assumption)))
    (first
      | (go_at_call_of 10 u'; go_split_ands; refine (equal_below (Hu.out.below (by assumption)) (Hu'.out.below (by assumption))).mono ?_; rintro e w2 ⟨rfl, hb2⟩)
      | (go_at_call 10; go_split_ands; refine (equal_below (Hu.out.below (by assumption)) (Hu.out.below (by assumption))).mono ?_; rintro e w2 ⟨rfl, hb2⟩)
      | (go_at_call 11; go_split_ands; refine (awake_true m _ (cell_below Hm.out (by assumption))).mono ?_; rintro e w2 ⟨rfl, hb2⟩))
  go_wp2
  go_ret
  go_split_ands
  exact ⟨rfl, by assumption⟩
end Go.Proofs.YtmbbcgfcallllaaDoor
