/- There and back: what was put is taken, digits and texts are read as what they were made of: plain. -/
import Derived.Test.YtmbbcgfcallllaaDoorBeOrder
import Derived.Test.YtmbbcgfcallllaaDoorParsePlain
namespace Go.Proofs.YtmbbcgfcallllaaDoor
open Go.RowKit
set_option maxRecDepth 10000

theorem valOf_be : ∀ (k n : Nat), n < 256 ^ k → valOf (be n k) = n := by
  have gen : ∀ (l : List UInt8) (a : Nat), l.foldl (fun n b => 256 * n + b.toNat) a = a * 256 ^ l.length + valOf l := by
    intro l
    induction l with
    | nil => intro a; simp [valOf]
    | cons b l ih =>
      intro a
      unfold valOf
      rw [List.foldl_cons, List.foldl_cons, ih, ih (256 * 0 + b.toNat), List.length_cons, Nat.pow_succ]
      have : (256 * a + b.toNat) * 256 ^ l.length = a * (256 ^ l.length * 256) + b.toNat * 256 ^ l.length := by
        rw [Nat.add_mul, Nat.mul_comm 256 a, Nat.mul_assoc, Nat.mul_comm 256]
      rw [this]; simp; omega
  intro k
  induction k with
  | zero => intro n h; simp at h; subst h; rfl
  | succ k ih =>
    intro n h
    rw [be_succ, ← be_mod n k k (Nat.le_refl _)]
    have hpos : 0 < 256 ^ k := Nat.pow_pos (by decide)
    have hb : (beByte n k).toNat = n / 256 ^ k := by
      simp only [beByte, UInt8.toNat_ofNat', show 2 ^ (8 * k) = 256 ^ k by rw [Nat.pow_mul]]
      apply Nat.mod_eq_of_lt
      rw [Nat.pow_succ] at h
      exact Nat.div_lt_of_lt_mul h
    unfold valOf
    rw [List.foldl_cons, gen, ih _ (Nat.mod_lt _ hpos), hb]
    have hlen : (be (n % 256 ^ k) k).length = k := by simp [be]
    rw [hlen]
    have := Nat.div_add_mod n (256 ^ k)
    rw [Nat.mul_comm] at this
    simp; omega

theorem hexDig_digOf (c : UInt8) (h : 0 ≤ digOf c) : hexDig (digOf c).toNat = c := by
  unfold digOf at *
  split at h
  · rename_i hc
    rw [if_pos hc]
    unfold hexDig
    rw [if_pos (by omega), show 48 + ((c.toNat : Int) - 48).toNat = c.toNat by omega]
    simp
  · rename_i hc
    rw [if_neg hc]
    split at h
    · rename_i hd
      rw [if_pos hd]
      unfold hexDig
      rw [if_neg (by omega), show 87 + ((c.toNat : Int) - 87).toNat = c.toNat by omega]
      simp
    · omega

theorem hexOf_cons (b : UInt8) (l : List UInt8) : hexOf (b :: l) = hexDig (b.toNat / 16) :: hexDig (b.toNat % 16) :: hexOf l := rfl

/-- Unhex by pairs, as a recursion -/
def unhexL : List UInt8 → Option (List UInt8)
  | [] => some []
  | [_] => none
  | x :: y :: t => if 0 ≤ digOf x ∧ 0 ≤ digOf y then (unhexL t).map (UInt8.ofNat (16 * digOf x + digOf y).toNat :: ·) else none

theorem unhexL_eq : ∀ l, unhexL l = unhexOf l
  | [] => rfl
  | [x] => by simp [unhexL, unhexOf]
  | x :: y :: t => by
    have ih := unhexL_eq t
    have hd : (x :: y :: t).length / 2 = t.length / 2 + 1 := by simp only [List.length_cons]; omega
    have hok : ∀ k, pairOk (x :: y :: t) (k + 1) = pairOk t k := by
      intro k; unfold pairOk
      rw [show 2 * (k + 1) = 2 * k + 1 + 1 by omega, show 2 * k + 1 + 1 + 1 = 2 * k + 1 + 1 + 1 by rfl]
      simp
    have hb : ∀ k, pairB (x :: y :: t) (k + 1) = pairB t k := by
      intro k; unfold pairB
      rw [show 2 * (k + 1) = 2 * k + 1 + 1 by omega]
      simp
    have h0 : pairOk (x :: y :: t) 0 = true ↔ 0 ≤ digOf x ∧ 0 ≤ digOf y := by simp [pairOk]
    unfold unhexL
    by_cases h : 0 ≤ digOf x ∧ 0 ≤ digOf y
    · rw [if_pos h, ih]
      by_cases hc : t.length % 2 = 0 ∧ ∀ k, k < t.length / 2 → pairOk t k = true
      · have e1 : unhexOf t = some ((List.range (t.length / 2)).map (pairB t)) := by unfold unhexOf; rw [if_pos hc]
        rw [e1]
        unfold unhexOf
        rw [if_pos]
        · rw [hd, List.range_succ_eq_map, List.map_cons, List.map_map]
          simp only [Option.map_some]
          refine congrArg some ?_
          refine congrArg (_ :: ·) ?_
          apply List.map_congr_left
          intro i _
          exact (hb i).symm
        · refine ⟨by simp; omega, fun k hk => ?_⟩
          cases k with
          | zero => exact h0.2 h
          | succ k => rw [hok]; exact hc.2 k (by rw [hd] at hk; omega)
      · have e1 : unhexOf t = none := by unfold unhexOf; rw [if_neg hc]
        rw [e1]
        unfold unhexOf
        rw [if_neg]
        · rfl
        rintro ⟨h1, h2⟩
        apply hc
        refine ⟨by simp at h1; omega, fun k hk => ?_⟩
        rw [← hok]; exact h2 (k + 1) (by rw [hd]; omega)
    · rw [if_neg h]
      unfold unhexOf
      rw [if_neg]
      rintro ⟨_, h2⟩
      exact h (h0.1 (h2 0 (by rw [hd]; omega)))

theorem unhex_hex : ∀ l, unhexOf (hexOf l) = some l := by
  intro l
  rw [← unhexL_eq]
  induction l with
  | nil => rfl
  | cons b l ih =>
    rw [hexOf_cons]
    unfold unhexL
    have hb := u8_lt b
    rw [digOf_hexDig _ (by omega), digOf_hexDig _ (by omega), if_pos ⟨by omega, by omega⟩, ih]
    simp only [Option.map_some]
    congr 2
    apply UInt8.toNat_inj.1
    rw [UInt8.toNat_ofNat']
    omega

theorem hex_unhex : ∀ (l c : List UInt8), unhexOf l = some c → hexOf c = l := by
  intro l c h
  rw [← unhexL_eq] at h
  have H : ∀ (n : Nat) (l c : List UInt8), l.length ≤ n → unhexL l = some c → hexOf c = l := by
    intro n
    induction n with
    | zero =>
      intro l c hl h
      obtain rfl : l = [] := List.eq_nil_of_length_eq_zero (by omega)
      cases h; rfl
    | succ n ih =>
      intro l c hl h
      match l, h with
      | [], h => cases h; rfl
      | [_], h => cases h
      | x :: y :: t, h =>
        unfold unhexL at h
        split at h
        · rename_i hd
          cases ht : unhexL t with
          | none => rw [ht] at h; cases h
          | some r =>
            rw [ht] at h
            cases h
            rw [hexOf_cons, ih t r (by simp at hl; omega) ht]
            have l1 := digOf_le x
            have l2 := digOf_le y
            have e1 : (UInt8.ofNat (16 * digOf x + digOf y).toNat).toNat = (16 * digOf x + digOf y).toNat := by
              rw [UInt8.toNat_ofNat']; omega
            rw [e1, show (16 * digOf x + digOf y).toNat / 16 = (digOf x).toNat by omega, show (16 * digOf x + digOf y).toNat % 16 = (digOf y).toNat by omega, hexDig_digOf x hd.1, hexDig_digOf y hd.2]
        · cases h
  exact H l.length l c (Nat.le_refl _) h

theorem oneOf_hex (a : UInt8) : oneOf [hexDig (a.toNat / 16), hexDig (a.toNat % 16)] = some a := by
  have h := unhex_hex [a]
  have e : hexOf [a] = [hexDig (a.toNat / 16), hexDig (a.toNat % 16)] := rfl
  rw [e] at h
  unfold oneOf
  rw [h]
theorem hex_oneOf {x y a : UInt8} (h : oneOf [x, y] = some a) : [hexDig (a.toNat / 16), hexDig (a.toNat % 16)] = [x, y] := by
  unfold oneOf at h
  split at h
  · rename_i b hb
    cases h
    exact hex_unhex _ _ hb
  · cases h

theorem parse_text (a b c d e f : UInt8) : parseOf (textPre [a, b, c, d, e, f] 6) = some [a, b, c, d, e, f] := by
  rw [← parse_same]
  have ht : textPre [a, b, c, d, e, f] 6 = [hexDig (a.toNat / 16), hexDig (a.toNat % 16), 58, hexDig (b.toNat / 16), hexDig (b.toNat % 16), 58, hexDig (c.toNat / 16), hexDig (c.toNat % 16), 58,
      hexDig (d.toNat / 16), hexDig (d.toNat % 16), 58, hexDig (e.toNat / 16), hexDig (e.toNat % 16), 58, hexDig (f.toNat / 16), hexDig (f.toNat % 16)] := rfl
  rw [ht]
  unfold parseRef
  rw [if_pos]
  · simp [List.range, List.range.loop, byteR, oneOf_hex]
  · refine ⟨rfl, ?_⟩
    simp [List.range, List.range.loop, okR, oneOf_hex]

theorem text_parse (l m : List UInt8) (h : parseOf l = some m) : textPre m 6 = l := by
  rw [← parse_same] at h
  unfold parseRef at h
  split at h
  · rename_i hr
    obtain ⟨h17, hall⟩ := hr
    rw [List.all_eq_true] at hall
    match l, h17 with
    | [x0, y0, c0, x1, y1, c1, x2, y2, c2, x3, y3, c3, x4, y4, c4, x5, y5], _ =>
      have k0 := hall 0 (by simp)
      have k1 := hall 1 (by simp)
      have k2 := hall 2 (by simp)
      have k3 := hall 3 (by simp)
      have k4 := hall 4 (by simp)
      have k5 := hall 5 (by simp)
      simp [okR] at k0 k1 k2 k3 k4 k5
      obtain rfl := k1.2
      obtain rfl := k2.2
      obtain rfl := k3.2
      obtain rfl := k4.2
      obtain rfl := k5.2
      obtain ⟨b0, e0⟩ := Option.isSome_iff_exists.1 k0
      obtain ⟨b1, e1⟩ := Option.isSome_iff_exists.1 k1.1
      obtain ⟨b2, e2⟩ := Option.isSome_iff_exists.1 k2.1
      obtain ⟨b3, e3⟩ := Option.isSome_iff_exists.1 k3.1
      obtain ⟨b4, e4⟩ := Option.isSome_iff_exists.1 k4.1
      obtain ⟨b5, e5⟩ := Option.isSome_iff_exists.1 k5.1
      have hm : m = [b0, b1, b2, b3, b4, b5] := by
        cases h
        simp [List.range, List.range.loop, byteR, e0, e1, e2, e3, e4, e5]
      subst hm
      have f0 := hex_oneOf e0
      have f1 := hex_oneOf e1
      have f2 := hex_oneOf e2
      have f3 := hex_oneOf e3
      have f4 := hex_oneOf e4
      have f5 := hex_oneOf e5
      simp only [List.cons.injEq, and_true] at f0 f1 f2 f3 f4 f5
      show [hexDig (b0.toNat / 16), hexDig (b0.toNat % 16), 58, hexDig (b1.toNat / 16), hexDig (b1.toNat % 16), 58, hexDig (b2.toNat / 16), hexDig (b2.toNat % 16), 58,
        hexDig (b3.toNat / 16), hexDig (b3.toNat % 16), 58, hexDig (b4.toNat / 16), hexDig (b4.toNat % 16), 58, hexDig (b5.toNat / 16), hexDig (b5.toNat % 16)] = _
      rw [f0.1, f0.2, f1.1, f1.2, f2.1, f2.2, f3.1, f3.2, f4.1, f4.2, f5.1, f5.2]
  · cases h
end Go.Proofs.YtmbbcgfcallllaaDoor
