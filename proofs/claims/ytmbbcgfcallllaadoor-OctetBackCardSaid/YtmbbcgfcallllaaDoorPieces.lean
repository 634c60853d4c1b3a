/- Pieces of a text between colons: the library's words and plain ones. -/
import Derived.Test.YtmbbcgfcallllaaDoorOct4
import Derived.Lib.SplitLaws
import Derived.Lib.IndexLaws
namespace Go.Proofs.YtmbbcgfcallllaaDoor
open Go.RowKit

/-- the pieces of a text between bytes c -/
def pieces (c : UInt8) : List UInt8 → List (List UInt8)
  | [] => [[]]
  | x :: t => if x = c then [] :: pieces c t else match pieces c t with | [] => [[x]] | p :: ps => (x :: p) :: ps

theorem pieces_ne (c : UInt8) : ∀ l, pieces c l ≠ []
  | [] => by simp [pieces]
  | x :: t => by
    unfold pieces
    split
    · simp
    · split <;> simp
theorem pieces_len (c : UInt8) : ∀ l, ∀ p ∈ pieces c l, p.length ≤ l.length
  | [], p, h => by simp [pieces] at h; simp [h]
  | x :: t, p, h => by
    unfold pieces at h
    have ih := pieces_len c t
    split at h
    · rcases List.mem_cons.1 h with rfl | h
      · simp
      · have := ih p h; simp; omega
    · split at h
      · simp at h; simp [h]
      · rename_i q qs he
        rw [he] at ih
        rcases List.mem_cons.1 h with rfl | h
        · have := ih q (by simp); simp; omega
        · have := ih p (by simp [h]); simp; omega
theorem pieces_free (c : UInt8) : ∀ l, c ∉ l → pieces c l = [l]
  | [], _ => rfl
  | x :: t, h => by
    have hx : ¬ x = c := by rintro rfl; simp at h
    have ht : c ∉ t := fun h' => h (List.mem_cons_of_mem _ h')
    unfold pieces
    rw [if_neg hx, pieces_free c t ht]
theorem pieces_at (c : UInt8) : ∀ (p t : List UInt8), c ∉ p → pieces c (p ++ c :: t) = p :: pieces c t
  | [], t, _ => by simp [pieces]
  | x :: p, t, h => by
    have hx : ¬ x = c := by rintro rfl; simp at h
    have ht : c ∉ p := fun h' => h (List.mem_cons_of_mem _ h')
    rw [List.cons_append]
    conv => lhs; unfold pieces
    rw [if_neg hx, pieces_at c p t ht]

theorem split_pieces (c : UInt8) : ∀ (n : Nat) (l : List UInt8), l.length ≤ n → Lib.splitK [c] 0 (Lib.count l [c]) l = pieces c l := by
  intro n
  induction n with
  | zero =>
    intro l h
    obtain rfl : l = [] := List.eq_nil_of_length_eq_zero (by omega)
    rfl
  | succ n ih =>
    intro l h
    have hi := Lib.index_one l c
    by_cases hm : Lib.index l [c] = -1
    · rw [Lib.count_miss hm]
      have hn : c ∉ l := by
        intro hc
        obtain ⟨k, hk, he⟩ := List.getElem_of_mem hc
        exact Lib.indexByte_none (hi.symm.trans hm) k (by rw [List.getElem?_eq_getElem hk, he])
      rw [pieces_free c l hn]
      rfl
    · have hge := Lib.indexByte_ge l c
      obtain ⟨i, hk⟩ := Int.eq_ofNat_of_zero_le (show 0 ≤ Lib.index l [c] by omega)
      rw [Lib.count_hit (by simp) hk]
      have hs := Lib.indexByte_some (hi.symm.trans hk)
      have hlt : i < l.length := by
        rcases Nat.lt_or_ge i l.length with h | h
        · exact h
        · rw [List.getElem?_eq_none h] at hs; cases hs.1
      have hl : l = l.take i ++ c :: l.drop (i + 1) := by
        have := hs.1
        rw [List.getElem?_eq_getElem hlt] at this
        cases this
        rw [← List.drop_eq_getElem_cons hlt, List.take_append_drop]
      have hf : c ∉ l.take i := by
        intro hc
        obtain ⟨k, hk, he⟩ := List.getElem_of_mem hc
        have hk' : k < i ∧ k < l.length := by rw [List.length_take] at hk; omega
        refine hs.2 k hk'.1 ?_
        rw [List.getElem?_eq_getElem hk'.2, ← he, List.getElem_take]
      have hih := ih (l.drop (i + 1)) (by rw [List.length_drop]; omega)
      conv => rhs; rw [hl]
      rw [pieces_at c _ _ hf, ← hih, Nat.add_comm 1]
      show Lib.splitK [c] 0 (Lib.count (l.drop (i + [c].length)) [c] + 1) l = _
      conv => lhs; unfold Lib.splitK
      rw [hk]
      simp
end Go.Proofs.YtmbbcgfcallllaaDoor
