/- The walk of OctetTexts. -/
import Derived.Test.YtmbbcgfcallllaaDoorOctA
namespace Go.Proofs.YtmbbcgfcallllaaDoor
open Go.RowKit
set_option maxRecDepth 10000

theorem lawTexts (v : Value) (l : List UInt8) (s : ByteArray) (m : Int) (w : World) (hv : IsBytes w v l) (hs : s.size ≤ 9223372036854775807) (hm : w.cell? ⟨0, 0, none⟩ = some (.int .i64 m)) :
    Calls Tryd.prog 5 #[v, .string s] w fun e w' => e = .returned (.bool true) ∧ Below w.heap.size w w' := by
  have Hcut := Lib.hid (fun n => cut_val (w.drewN n) v l hv)
  have Hu := Lib.hid (isBytes_cut hv)
  have Hm := Lib.hid hm
  have Hsz := Lib.hid (show (s.extract 0 (min (s.size : Int) 3000).toNat).size ≤ 3000 from size_cut_str s 3000)
  clear hv hm
  have hL : (l.take 2000).length ≤ 1000000 := by rw [List.length_take]; omega
  generalize cutVal v = u at *
  generalize l.take 2000 = L at *
  go_enter Tryd.func5, Tryd.ntmps5
  go_wp2
  go_quiet ((go_at_call 9; exact Calls.quiet_of_same (Hcut.out _)))
  generalize s.extract 0 (min (s.size : Int) 3000).toNat = t at *
  have Hu1 := Lib.hid (IsBytes.below Hu.out (below_drewN' (Below.refl w.heap.size w) nq))
  have Hm1 := Lib.hid (cell_below Hm.out (below_drewN' (Below.refl w.heap.size w) nq))
  have Hb0 := Lib.hid (below_drewN' (Below.refl w.heap.size w) nq)
  go_wp2_with (first
    | (go_at_call 13; refine (unhex_all t (by have := Hsz.out; omega) _).mono ?_; rintro e w1 ⟨x, rfl, hb1, hx⟩; have Hx := Lib.hid hx; have Hb1 := Lib.hid hb1; clear hx hb1)
    | (go_at_call 14; refine (runhex_all t (by have := Hsz.out; omega) _).mono ?_; rintro e w2 ⟨y, rfl, hb2, hy⟩; have Hy := Lib.hid hy; have Hb2 := Lib.hid (below_next hb2 Hb1.out); have Hbx := Lib.hid hb2; clear hy hb2)
    | (go_at_call 15; refine (hex_any _ L hL _ (Hu1.out.below Hb2.out)).mono ?_; rintro e w3 ⟨rfl, hb3⟩; have Hb3 := Lib.hid hb3; clear hb3)
    | (go_at_call 16; refine (rhex_any _ L hL _ (Hu1.out.below (below_next Hb3.out Hb2.out))).mono ?_; rintro e w4 ⟨rfl, n, rfl⟩; have hx1 := conv_later Hx.out (below_drewN' (below_next Hb3.out Hbx.out) n); have hy1 := conv_later Hy.out (below_drewN' Hb3.out n); have Hb4 := Lib.hid (below_drewN' (below_next Hb3.out Hb2.out) n))
    | (go_at_call 11; refine (awake_true m _ (cell_below Hm1.out Hb4.out)).mono ?_; rintro e w5 ⟨rfl, hb5⟩))
  go_ret
  exact ⟨rfl, Hb0.out.trans ((below_next hb5 Hb4.out).mono Hb0.out.size)⟩
end Go.Proofs.YtmbbcgfcallllaaDoor
