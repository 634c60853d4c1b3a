/- Two ways of saying which text is an address are the same: by pieces, and by places. -/
import Derived.Test.YtmbbcgfcallllaaDoorOct7
namespace Go.Proofs.YtmbbcgfcallllaaDoor
open Go.RowKit
set_option maxRecDepth 10000

def okR (l : List UInt8) (k : Nat) : Bool := (oneOf ((l.drop (3 * k)).take 2)).isSome && (k == 0 || l[3 * k - 1]?.getD 0 == 58)
def byteR (l : List UInt8) (k : Nat) : UInt8 := (oneOf ((l.drop (3 * k)).take 2)).getD 0
def parseRef (l : List UInt8) : Option (List UInt8) :=
  if l.length = 17 ∧ (List.range 6).all (okR l) = true then some ((List.range 6).map (byteR l)) else none

theorem oneOf_two {p : List UInt8} (h : (oneOf p).isSome = true) : ∃ x y, p = [x, y] ∧ x ≠ 58 ∧ y ≠ 58 := by
  unfold oneOf at h
  split at h
  · rename_i b hb
    unfold unhexOf at hb
    split at hb
    · rename_i hc
      have hlen : p.length / 2 = 1 := by
        have := congrArg (Option.map List.length) hb
        simpa using this
      have h2 : p.length = 2 := by omega
      match p, h2 with
      | [x, y], _ =>
        have hk := hc.2 0 (by simp)
        simp [pairOk] at hk
        refine ⟨x, y, rfl, ?_, ?_⟩
        · rintro rfl; simp [digOf] at hk
        · rintro rfl; simp [digOf] at hk
    · cases hb
  · cases h

def joinP (c : UInt8) : List (List UInt8) → List UInt8
  | [] => []
  | [p] => p
  | p :: q :: ps => p ++ c :: joinP c (q :: ps)
theorem join_pieces (c : UInt8) : ∀ l, joinP c (pieces c l) = l
  | [] => rfl
  | x :: t => by
    have ih := join_pieces c t
    have hne := pieces_ne c t
    unfold pieces
    split
    · rename_i h
      subst h
      cases hp : pieces x t with
      | nil => exact (hne hp).elim
      | cons p ps => rw [hp] at ih; simp [joinP, ih]
    · split
      · rename_i h; exact (hne h).elim
      · rename_i p ps h
        rw [h] at ih
        cases ps with
        | nil => simp [joinP] at ih ⊢; exact ih
        | cons q qs => simp [joinP] at ih ⊢; exact ih

theorem parse_same (l : List UInt8) : parseRef l = parseOf l := by
  have key : ∀ x0 y0 x1 y1 x2 y2 x3 y3 x4 y4 x5 y5 : UInt8, x0 ≠ 58 → y0 ≠ 58 → x1 ≠ 58 → y1 ≠ 58 → x2 ≠ 58 → y2 ≠ 58 → x3 ≠ 58 → y3 ≠ 58 → x4 ≠ 58 → y4 ≠ 58 → x5 ≠ 58 → y5 ≠ 58 →
      pieces 58 [x0, y0, 58, x1, y1, 58, x2, y2, 58, x3, y3, 58, x4, y4, 58, x5, y5] = [[x0, y0], [x1, y1], [x2, y2], [x3, y3], [x4, y4], [x5, y5]] := by
    intro x0 y0 x1 y1 x2 y2 x3 y3 x4 y4 x5 y5 a0 b0 a1 b1 a2 b2 a3 b3 a4 b4 a5 b5
    have H : ∀ (x y : UInt8) (t : List UInt8), x ≠ 58 → y ≠ 58 → pieces 58 (x :: y :: 58 :: t) = [x, y] :: pieces 58 t := fun x y t hx hy =>
      pieces_at 58 [x, y] t (by simp [Ne.symm hx, Ne.symm hy])
    rw [H _ _ _ a0 b0, H _ _ _ a1 b1, H _ _ _ a2 b2, H _ _ _ a3 b3, H _ _ _ a4 b4, pieces_free 58 [x5, y5] (by simp [Ne.symm a5, Ne.symm b5])]
  by_cases hr : l.length = 17 ∧ (List.range 6).all (okR l) = true
  · obtain ⟨h17, hall⟩ := hr
    have hall' := hall
    rw [List.all_eq_true] at hall
    match l, h17 with
    | [x0, y0, c0, x1, y1, c1, x2, y2, c2, x3, y3, c3, x4, y4, c4, x5, y5], _ =>
      have k0 := hall 0 (by simp)
      have k1 := hall 1 (by simp)
      have k2 := hall 2 (by simp)
      have k3 := hall 3 (by simp)
      have k4 := hall 4 (by simp)
      have k5 := hall 5 (by simp)
      simp [okR] at k0 k1 k2 k3 k4 k5
      obtain ⟨_, _, e0, a0, b0⟩ := oneOf_two k0; cases e0
      obtain ⟨_, _, e1, a1, b1⟩ := oneOf_two k1.1; cases e1
      obtain ⟨_, _, e2, a2, b2⟩ := oneOf_two k2.1; cases e2
      obtain ⟨_, _, e3, a3, b3⟩ := oneOf_two k3.1; cases e3
      obtain ⟨_, _, e4, a4, b4⟩ := oneOf_two k4.1; cases e4
      obtain ⟨_, _, e5, a5, b5⟩ := oneOf_two k5.1; cases e5
      obtain rfl := k1.2
      obtain rfl := k2.2
      obtain rfl := k3.2
      obtain rfl := k4.2
      obtain rfl := k5.2
      unfold parseRef parseOf
      rw [if_pos ⟨rfl, hall'⟩, key _ _ _ _ _ _ _ _ _ _ _ _ a0 b0 a1 b1 a2 b2 a3 b3 a4 b4 a5 b5]
      rw [if_pos]
      · rfl
      · refine ⟨rfl, ?_⟩
        simp [List.range, List.range.loop, okAt, k0, k1, k2, k3, k4, k5]
  · have hn : parseRef l = none := by unfold parseRef; rw [if_neg hr]
    rw [hn]
    by_cases ho : (pieces 58 l).length = 6 ∧ (List.range 6).all (okAt (pieces 58 l)) = true
    · exfalso
      obtain ⟨h6, hall⟩ := ho
      rw [List.all_eq_true] at hall
      have hj := join_pieces 58 l
      match hp : pieces 58 l, h6 with
      | [p0, p1, p2, p3, p4, p5], _ =>
        rw [hp] at hall hj
        have k0 := hall 0 (by simp)
        have k1 := hall 1 (by simp)
        have k2 := hall 2 (by simp)
        have k3 := hall 3 (by simp)
        have k4 := hall 4 (by simp)
        have k5 := hall 5 (by simp)
        simp [okAt] at k0 k1 k2 k3 k4 k5
        obtain ⟨_, _, rfl, a0, b0⟩ := oneOf_two k0
        obtain ⟨_, _, rfl, a1, b1⟩ := oneOf_two k1
        obtain ⟨_, _, rfl, a2, b2⟩ := oneOf_two k2
        obtain ⟨_, _, rfl, a3, b3⟩ := oneOf_two k3
        obtain ⟨_, _, rfl, a4, b4⟩ := oneOf_two k4
        obtain ⟨_, _, rfl, a5, b5⟩ := oneOf_two k5
        apply hr
        rw [← hj]
        refine ⟨rfl, ?_⟩
        simp [List.range, List.range.loop, okR, joinP, k0, k1, k2, k3, k4, k5]
    · unfold parseOf
      rw [if_neg ho]
end Go.Proofs.YtmbbcgfcallllaaDoor
