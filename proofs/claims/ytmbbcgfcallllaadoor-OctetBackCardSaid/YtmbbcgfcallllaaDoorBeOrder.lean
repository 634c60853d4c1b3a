/- Numbers that are put in one size are ordered as their bytes are: plain. -/
import Derived.Test.YtmbbcgfcallllaaDoorOctA
namespace Go.Proofs.YtmbbcgfcallllaaDoor
open Go.RowKit

theorem be_succ (n k : Nat) : be n (k + 1) = beByte n k :: be n k := by
  unfold be
  rw [List.range_succ_eq_map, List.map_cons, List.map_map]
  congr 1
  apply List.map_congr_left
  intro i hi
  simp only [Function.comp]
  rw [show k + 1 - 1 - (i + 1) = k - 1 - i by omega]
theorem be_mod (n k : Nat) : ∀ j, j ≤ k → be (n % 256 ^ k) j = be n j := by
  intro j hj
  unfold be
  apply List.map_congr_left
  intro i hi
  have hi' : i < j := by simpa using hi
  unfold beByte
  apply UInt8.toNat_inj.1
  simp only [UInt8.toNat_ofNat']
  have h : 2 ^ (8 * (j - 1 - i)) = 256 ^ (j - 1 - i) := by rw [Nat.pow_mul]
  rw [h]
  generalize hm : j - 1 - i = m
  have hmk : k = (k - m - 1) + 1 + m := by omega
  have e : 256 ^ k = 256 ^ m * (256 * 256 ^ (k - m - 1)) := by
    conv => lhs; rw [hmk, Nat.pow_add, Nat.pow_succ]
    rw [Nat.mul_comm, Nat.mul_comm (256 ^ (k - m - 1)) 256]
  rw [e, Nat.mod_mul_right_div_self, show (2 : Nat) ^ 8 = 256 by rfl, Nat.mod_mul_right_mod]

theorem be_less : ∀ (k x y : Nat), x < 256 ^ k → y < 256 ^ k → Op.bytesLess (be x k) (be y k) = decide (x < y)
  | 0, x, y, hx, hy => by
    obtain rfl : x = 0 := by simpa using hx
    obtain rfl : y = 0 := by simpa using hy
    rfl
  | k + 1, x, y, hx, hy => by
    rw [be_succ, be_succ, ← be_mod x k k (Nat.le_refl _), ← be_mod y k k (Nat.le_refl _)]
    have hpos : 0 < 256 ^ k := Nat.pow_pos (by decide)
    have ih := be_less k (x % 256 ^ k) (y % 256 ^ k) (Nat.mod_lt _ hpos) (Nat.mod_lt _ hpos)
    have hbx : (beByte x k).toNat = x / 256 ^ k := by
      simp only [beByte, UInt8.toNat_ofNat', show 2 ^ (8 * k) = 256 ^ k by rw [Nat.pow_mul]]
      apply Nat.mod_eq_of_lt
      rw [Nat.pow_succ] at hx
      exact Nat.div_lt_of_lt_mul hx
    have hby : (beByte y k).toNat = y / 256 ^ k := by
      simp only [beByte, UInt8.toNat_ofNat', show 2 ^ (8 * k) = 256 ^ k by rw [Nat.pow_mul]]
      apply Nat.mod_eq_of_lt
      rw [Nat.pow_succ] at hy
      exact Nat.div_lt_of_lt_mul hy
    have h1 : (beByte x k < beByte y k) ↔ x / 256 ^ k < y / 256 ^ k := by rw [UInt8.lt_iff_toNat_lt, hbx, hby]
    have h2 : (beByte x k = beByte y k) ↔ x / 256 ^ k = y / 256 ^ k := by rw [← UInt8.toNat_inj, hbx, hby]
    have ex := Nat.div_add_mod x (256 ^ k)
    have ey := Nat.div_add_mod y (256 ^ k)
    have lx := Nat.mod_lt x hpos
    have ly := Nat.mod_lt y hpos
    unfold Op.bytesLess
    rw [ih, Bool.eq_iff_iff]
    simp only [Bool.or_eq_true, Bool.and_eq_true, decide_eq_true_eq, beq_iff_eq]
    rw [h1, h2]
    generalize 256 ^ k = M at *
    generalize x / M = a at *
    generalize y / M = b at *
    generalize x % M = r at *
    generalize y % M = t at *
    rcases Nat.lt_trichotomy a b with h | h | h
    · have : M * (a + 1) ≤ M * b := Nat.mul_le_mul_left M h
      rw [Nat.mul_add] at this
      constructor
      · intro _; omega
      · intro _; exact .inl h
    · subst h
      constructor
      · rintro (h | ⟨_, h⟩)
        · omega
        · omega
      · intro h; exact .inr ⟨rfl, by omega⟩
    · have : M * (b + 1) ≤ M * a := Nat.mul_le_mul_left M h
      rw [Nat.mul_add] at this
      constructor
      · rintro (h' | ⟨h', _⟩) <;> omega
      · intro _; omega
theorem bytesLess_irrefl : ∀ l : List UInt8, Op.bytesLess l l = false
  | [] => rfl
  | a :: l => by unfold Op.bytesLess; rw [bytesLess_irrefl l]; simp
theorem be_same (k x y : Nat) (hx : x < 256 ^ k) (hy : y < 256 ^ k) : (be x k == be y k) = decide (x = y) := by
  rw [Bool.eq_iff_iff, beq_iff_eq, decide_eq_true_eq]
  constructor
  · intro h
    have h1 := be_less k x y hx hy
    have h2 := be_less k y x hy hx
    rw [h, bytesLess_irrefl] at h1 h2
    have n1 := of_decide_eq_false h1.symm
    have n2 := of_decide_eq_false h2.symm
    omega
  · rintro rfl; rfl
end Go.Proofs.YtmbbcgfcallllaaDoor
