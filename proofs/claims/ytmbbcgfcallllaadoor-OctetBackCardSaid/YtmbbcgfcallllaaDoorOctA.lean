/- Contracts that several laws of layer 1 use. -/
import Derived.Test.YtmbbcgfcallllaaDoorOct9
namespace Go.Proofs.YtmbbcgfcallllaaDoor
open Go.RowKit
set_option maxRecDepth 10000
theorem equal_below {w : World} {v v' : Value} {l l' : List UInt8} (hv : IsBytes w v l) (hv' : IsBytes w v' l') :
    Calls Tryd.prog 10 #[v, v'] w fun e w' => e = .returned (.bool (l == l')) ∧ Below w.heap.size w w' := by
  refine (equal_any w v v' l l' hv hv').mono ?_
  rintro e w' ⟨rfl, n, rfl⟩
  exact ⟨rfl, below_drewN' (Below.refl _ _) n⟩


def cutVal : Value → Value
  | .slice a n c => .slice a (min n 2000) c
  | v => v
theorem cut_val (w : World) (v : Value) (l : List UInt8) (h : IsBytes w v l) :
    Calls Tryd.prog 9 #[v] w fun e w' => e = .returned (cutVal v) ∧ w' = w := by
  rcases h with ⟨rfl, rfl⟩ | ⟨x, cap, rfl, h1, h2, h3⟩
  · go_enter Tryd.func9, Tryd.ntmps9
    go_wp2
    go_ret
    exact ⟨rfl, rfl⟩
  · have e : (min (l.length : Int) 2000).toNat = min l.length 2000 := by omega
    clear h3
    show Calls Tryd.prog 9 _ w fun e w' => e = .returned (.slice (some x) (min l.length 2000) cap) ∧ w' = w
    go_enter Tryd.func9, Tryd.ntmps9
    go_wp2
    go_ret
    exact ⟨rfl, rfl⟩
theorem isBytes_cut {w : World} {v : Value} {l : List UInt8} (h : IsBytes w v l) : IsBytes w (cutVal v) (l.take 2000) := by
  rcases h with ⟨rfl, rfl⟩ | ⟨x, cap, rfl, h1, h2, h3⟩
  · exact .nil w
  · refine .inr ⟨x, cap, ?_, by rw [List.length_take]; omega, h2, fun i hi => ?_⟩
    · show Value.slice (some x) (min l.length 2000) cap = _
      rw [List.length_take, Nat.min_comm]
    · rw [List.length_take] at hi
      rw [List.getElem?_take, if_pos (by omega)]
      exact h3 i (by omega)

def unhexR (l : List UInt8) : List UInt8 := (unhexOf l).getD []
def unhexE (l : List UInt8) : Int := match unhexOf l with | some _ => 0 | none => 10
theorem unhex_all (s : ByteArray) (hlen : s.size ≤ 1000000) (w : World) : Calls Tryd.prog 13 #[.string s] w fun e w' => ∃ v, e = .returned (.tuple #[v, .int .i64 (unhexE s.data.toList)]) ∧ Below w.heap.size w w' ∧ IsBytes w' v (unhexR s.data.toList) := by
  refine (unhex_any s hlen w).mono ?_
  rintro e w' ⟨hb, ⟨r, v, h, rfl, ho⟩ | ⟨h, rfl⟩⟩
  · exact ⟨v, by simp [unhexE, h], hb, by simpa [unhexR, h] using own_bytes ho⟩
  · exact ⟨.slice none 0 0, by simp [unhexE, h], hb, by simpa [unhexR, h] using IsBytes.nil w'⟩
theorem runhex_all (s : ByteArray) (hlen : s.size ≤ 1000000) (w : World) : Calls Tryd.prog 14 #[.string s] w fun e w' => ∃ v, e = .returned (.tuple #[v, .int .i64 (unhexE s.data.toList)]) ∧ Below w.heap.size w w' ∧ IsBytes w' v (unhexR s.data.toList) := by
  refine (runhex_any s hlen w).mono ?_
  rintro e w' ⟨hb, ⟨r, v, h, rfl, ho⟩ | ⟨h, rfl⟩⟩
  · exact ⟨v, by simp [unhexE, h], hb, by simpa [unhexR, h] using own_bytes ho⟩
  · exact ⟨.slice none 0 0, by simp [unhexE, h], hb, by simpa [unhexR, h] using IsBytes.nil w'⟩
/-- 'string(b)', in any later world -/
theorem conv_later {w W : World} {v : Value} {l : List UInt8} (h : IsBytes w v l) (hB : Below w.heap.size w W) : (convert 22 9 v).run Tryd.prog W = .ok (.string ⟨l.toArray⟩) W :=
  run_string_bytes (P := Tryd.prog) el_u8.ht (by kernel_rfl) (dst := 9) (by kernel_rfl) (h.below hB)

/-- 's[:min(len(s), n)]', as the walk writes it -/
theorem size_cut_str (s : ByteArray) (n : Nat) : (s.extract 0 (min (s.size : Int) (n : Int)).toNat).size ≤ n := by
  rw [ByteArray.size_extract]; omega
end Go.Proofs.YtmbbcgfcallllaaDoor
