/- slices.BinarySearch of ints; what a row of ints reads as. -/
import Derived.Test.YtkifagflnpkkaaaProg
import Derived.Test.YtkifagflnpkkaaaBase
namespace Go.Proofs.Ytkifagflnpkkaaa
set_option linter.unusedSimpArgs false
set_option linter.unusedVariables false
open Go.RowKit
set_option maxRecDepth 10000

/-- v is a slice of the ints l, readable in w -/
def IsInts (w : World) (v : Value) (l : List Int) : Prop :=
  (v = .slice none 0 0 ∧ l = []) ∨ ∃ g cap, v = .slice (some ⟨g, 0, none⟩) l.length cap ∧ l.length ≤ cap ∧ cap ≤ maxLen ∧ ∀ i n, l[i]? = some n → w.cell? ⟨g, i, none⟩ = some (.int .i64 n)

theorem isnan_int (n : Int) (w : World) : Calls Try.prog 66 #[.int .i64 n] w fun e w' => e = .returned (.bool false) ∧ w' = w := by
  go_enter Try.func66, Try.ntmps66
  go_wp2
  go_ret
  exact ⟨rfl, rfl⟩
theorem cnan_int (n : Int) (w : World) : Calls Try.prog 69 #[.int .i64 n] w fun e w' => e = .returned (.bool false) ∧ w' = w := by
  go_enter Try.func69, Try.ntmps69
  go_wp2
  go_ret
  exact ⟨rfl, rfl⟩
theorem less_int (a b : Int) (w : World) : Calls Try.prog 65 #[.int .i64 a, .int .i64 b] w fun e w' => e = .returned (.bool (decide (a < b))) ∧ w' = w := by
  go_enter Try.func65, Try.ntmps65
  go_wp2_with (go_at_call 69; refine (cnan_int _ _).mono ?_; rintro e w1 ⟨rfl, rfl⟩)
  all_goals go_ret
  all_goals exact ⟨rfl, rfl⟩

theorem sorted_le {l : List Int} (hs : l.Pairwise (· < ·)) {t h : Nat} (hth : t ≤ h) {x n : Int} (hx : l[t]? = some x) (hn : l[h]? = some n) : x ≤ n := by
  rcases Nat.lt_or_eq_of_le hth with hlt | rfl
  · obtain ⟨h1, rfl⟩ := List.getElem?_eq_some_iff.1 hx
    obtain ⟨h2, rfl⟩ := List.getElem?_eq_some_iff.1 hn
    exact Int.le_of_lt (List.pairwise_iff_getElem.1 hs t h h1 h2 hlt)
  · rw [hx] at hn; cases hn; exact Int.le_refl _
def BinRel (l : List Int) (k : Int) (w : World) (i j : Value) (wr : World) : Prop :=
  w = wr ∧ ∃ a b : Nat, i = .int .i64 a ∧ j = .int .i64 b ∧ a ≤ b ∧ b ≤ l.length ∧ (∀ t n, t < a → l[t]? = some n → n < k) ∧ ∀ t n, b ≤ t → l[t]? = some n → k ≤ n

theorem binary_any (v : Value) (l : List Int) (k : Int) (hs : l.Pairwise (· < ·)) (w : World) (hv : IsInts w v l) (hl : l.length ≤ 1000000) :
    Calls Try.prog 59 #[v, .int .i64 k] w fun e w' => w' = w ∧ ∃ a : Nat, e = .returned (.tuple #[.int .i64 a, .bool (decide (l[a]? = some k))]) ∧ a ≤ l.length ∧ (∀ t n, t < a → l[t]? = some n → n < k) ∧ ∀ t n, a ≤ t → l[t]? = some n → k ≤ n := by
  obtain ⟨ad, cap, rfl, hcell⟩ : ∃ ad cap, v = .slice ad l.length cap ∧ ∀ i n, l[i]? = some n → ∃ g, ad = some ⟨g, 0, none⟩ ∧ w.cell? ⟨g, i, none⟩ = some (.int .i64 n) := by
    rcases hv with ⟨rfl, rfl⟩ | ⟨g, cap, rfl, _, _, h⟩
    · exact ⟨none, 0, rfl, fun i n h => by simp at h⟩
    · exact ⟨_, cap, rfl, fun i n hn => ⟨g, rfl, h i n hn⟩⟩
  have Hcell := Lib.hid hcell
  have Hs := Lib.hid hs
  clear hcell hv hs
  have hl' : (l.length : Int) ≤ 1000000 := by omega
  go_enter Try.func59, Try.ntmps59
  go_wp2
  go_loopw [7, 8] (fun i j wr => BinRel l k w i j wr) (fun i j _ => (intOf j).toNat - (intOf i).toNat)
  case atStart => exact ⟨rfl, 0, l.length, rfl, rfl, Nat.zero_le _, Nat.le_refl _, fun t n h => by omega, fun t n h hn => by rw [List.getElem?_eq_none h] at hn; cases hn⟩
  case round =>
    obtain ⟨rfl, a, b, rfl, rfl, hab, hbl, hlo, hhi⟩ := hrel
    have Hlo := Lib.hid hlo
    have Hhi := Lib.hid hhi
    clear hlo hhi
    by_cases hlt : a < b
    · obtain ⟨h, hh⟩ : ∃ h, h = (a + b) / 2 := ⟨_, rfl⟩
      have h1 : a ≤ h := by omega
      have h2 : h < b := by omega
      have hget : l[h]? = some (l[h]'(by omega)) := List.getElem?_eq_getElem (by omega)
      obtain ⟨g, rfl, hc⟩ := Hcell.out h _ hget
      generalize hn : l[h]'(by omega) = n at *
      have Hget := Lib.hid hget
      clear hget hn
      have hlt' : (a : Int) < b := by omega
      have hb' : (b : Int) ≤ 1000000 := by omega
      have hh' : ((a : Int) + b) / 2 = h := by omega
      have hlen : (h : Int) < l.length := by omega
      clear hh
      go_wp2_with (go_at_call 65; refine (less_int _ _ _).mono ?_; rintro e w1 ⟨rfl, rfl⟩)
      · have hnk : n < k := by omega
        refine ⟨⟨rfl, h + 1, b, by go_num, rfl, by omega, hbl, fun t x ht hx => ?_, Hhi.out⟩, by simp [intOf]; omega⟩
        have := sorted_le Hs.out (show t ≤ h by omega) hx Hget.out
        omega
      · have hnk : ¬ n < k := by omega
        refine ⟨⟨rfl, a, h, rfl, rfl, h1, by omega, Hlo.out, fun t x ht hx => ?_⟩, by simp [intOf]; omega⟩
        have := sorted_le Hs.out ht Hget.out hx
        omega
    · obtain rfl : a = b := by omega
      by_cases hal : a < l.length
      · have hget : l[a]? = some (l[a]'hal) := List.getElem?_eq_getElem hal
        obtain ⟨g, rfl, hc⟩ := Hcell.out a _ hget
        generalize hn : l[a]'hal = n at *
        have Hget := Lib.hid hget
        clear hget hn
        have hal' : (a : Int) < l.length := by omega
        by_cases hnk : n = k
        · subst hnk
          go_wp2
          refine bodyPost_ret (v := .tuple #[.int .i64 a, .bool true]) (by simp [results, Try.results59, go_sem]) rfl ⟨rfl, a, by rw [Hget.out]; simp, hbl, Hlo.out, Hhi.out⟩
        · go_wp2_with (go_at_call 66; refine (isnan_int _ _).mono ?_; rintro e w1 ⟨rfl, rfl⟩)
          refine bodyPost_ret (v := .tuple #[.int .i64 a, .bool false]) (by simp [results, Try.results59, go_sem, hnk]) rfl ⟨rfl, a, by rw [Hget.out]; simp [hnk], hbl, Hlo.out, Hhi.out⟩
      · obtain rfl : a = l.length := by omega
        go_wp2
        refine bodyPost_ret (v := .tuple #[.int .i64 l.length, .bool false]) (by simp [results, Try.results59, go_sem]) rfl ⟨rfl, l.length, by rw [List.getElem?_eq_none (Nat.le_refl _)]; simp, hbl, Hlo.out, Hhi.out⟩
end Go.Proofs.Ytkifagflnpkkaaa
