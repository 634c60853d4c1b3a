/- EvF: contracts that were proved by hand, as contracts of the evaluator. No condition. -/
import Derived.Test.YtokiedeiamlnlaaGreatEvE
namespace Go.Proofs.YtokiedeiamlnlaaGreat
set_option linter.unusedSimpArgs false
set_option linter.unusedVariables false
open Go.RowKit
set_option maxRecDepth 10000
noncomputable section
section
variable {P : Program} {E : Env} {h : Hp} {w w0 w' : World} {G : Nat → Prop}

/-- bytes as data -/
def eB (b : UInt8) : D := .i b.toNat
def eBs (l : List UInt8) : D := .l (l.map eB)
theorem toL_eBs {l : List UInt8} (h : l.length ≤ maxLen) : (eBs l).toL = l.map eB := toL_l (by simpa using h)
theorem len_eBs {l : List UInt8} (h : l.length ≤ maxLen) : (eBs l).len = l.length := by unfold D.len; rw [toL_eBs h]; simp
/-- a row of bytes of one's own -/
theorem own_bytesE (I : Inv P w0 G E h w) {e : TypeId} {v : Value} {n : Nat} {l : List UInt8} (hb : Below w.heap.size w w') (ho : w'.ownsRow w.heap.size e 1 v n (l.map bv)) (hrm : l.length ≤ room) :
    ∃ E', Stepd P w0 G E h w E' h w' ∧ Rel E' (.sl false [.int .u8] (eBs l) none) v := by
  refine ⟨_, I.fresh hb, ?_, trivial⟩
  have hn : n = l.length := by have := ho.1; simp at this; omega
  rcases ho.2 with ⟨rfl, h0⟩ | ⟨g, cap, cur, rfl, h0, hg, h1, h2, h3, h4⟩
  · have hl : l = [] := List.eq_nil_of_length_eq_zero (by omega)
    subst hl
    have h0' : (eBs []).len = 0 := by simp [eBs, D.len, D.toL, D.raw]
    exact ⟨by rw [h0', Nat.zero_mul]; exact Nat.zero_le _, none, 0, by rw [h0'], by rw [h0']; exact Nat.le_refl _, Nat.zero_le _, fun _ => rfl, fun hn => absurd h0' hn⟩
  · have hlm : l.length ≤ maxLen := by omega
    have hlen := len_eBs hlm
    refine ⟨by rw [hlen, show szB [.int .u8] = 1 from by decide, Nat.mul_one]; exact hrm, some ⟨g, 0, none⟩, cap, by rw [hlen, hn], by rw [hlen]; omega, h2, (fun h => by cases h), fun _ => ⟨g, 0, rfl, fun i hi => ⟨⟨bv (l[i]?.getD 0), ?_, ?_⟩, trivial⟩⟩⟩
    · rw [hlen] at hi
      show (if g < w.heap.size then E.Z g _ else w'.cell? ⟨g, _, none⟩) = _
      rw [if_neg (by omega), cell_of_row w' g _ _ _ _ hg]
      simp only [List.length_cons, List.length_nil, Nat.zero_add, Nat.mul_one]
      have : (l.map bv)[i]? = some (bv (l[i]?.getD 0)) := by simp [hi]
      rw [← h4, List.getElem?_take_of_lt (by omega)] at this
      simpa using this
    · rw [hlen] at hi
      show bv _ = .int .u8 (((eBs l).get i).cell 0).toI
      unfold D.get
      rw [toL_eBs hlm]
      simp [hi, eB, D.cell, D.toI, bv]
/-- bytes that are read -/
theorem bytes_of (I : Inv P w0 G E h w) {v : Value} {d : D} (hl : LF E.Z (.sl [.int .u8]) v d) (hr : ∀ i, i < d.len → 0 ≤ ((d.get i).cell 0).toI ∧ ((d.get i).cell 0).toI < 256) : IsBytes w v (d.toL.map fun e => UInt8.ofNat (e.cell 0).toI.toNat) := by
  obtain ⟨_, ad, cap, rfl, h1, h2, h3, h4⟩ := hl
  by_cases h0 : d.len = 0
  · have ht : d.toL = [] := List.eq_nil_of_length_eq_zero h0
    rw [ht, h0]
    cases ad with
    | none => have := h3 rfl; subst this; exact .inl ⟨rfl, rfl⟩
    | some x => exact .inr ⟨x, cap, rfl, Nat.zero_le _, h2, fun i hi => by simp at hi⟩
  · obtain ⟨b, o, rfl, h5⟩ := h4 h0
    have hlen : (d.toL.map fun e => UInt8.ofNat (e.cell 0).toI.toNat).length = d.len := by simp [D.len]
    refine .inr ⟨⟨b, o, none⟩, cap, by rw [hlen], by rw [hlen]; exact h1, h2, fun i hi => ?_⟩
    rw [hlen] at hi
    obtain ⟨⟨u, g1, g2⟩, _⟩ := h5 i hi
    simp only [List.length_cons, List.length_nil, Nat.zero_add, Nat.mul_one] at g1
    rw [addr_add', I.z _ _ _ g1]
    have g2' : u = .int .u8 ((d.get i).cell 0).toI := g2
    rw [g2']
    have hi' : i < d.toL.length := hi
    have hg : d.get i = d.toL[i] := by unfold D.get; rw [List.getD_eq_getElem?_getD, List.getElem?_eq_getElem hi']; rfl
    obtain ⟨r1, r2⟩ := hr i hi
    rw [hg] at r1 r2 ⊢
    simp only [List.getElem?_map, List.getElem?_eq_getElem hi', Option.map_some, Option.getD_some]
    congr 2
    rw [UInt8.toNat_ofNat']
    omega
end
end
end Go.Proofs.YtokiedeiamlnlaaGreat
