/- Nb5: what a client is made of, opened. No condition. -/
import Derived.Test.YtokiedeiamlnlaaGreatNb4
import Derived.Test.YtokiedeiamlnlaaGreatEvH
namespace Go.Proofs.YtokiedeiamlnlaaGreat
set_option linter.unusedSimpArgs false
set_option linter.unusedVariables false
open Go.RowKit
set_option maxRecDepth 10000
theorem lf_byte {Z : Nat → Nat → Option Value} {v : Value} {d : D} (h : LF Z (.int .u8) v d) (f : wfS (.int .u8) d) : ∃ b : UInt8, v = bv b := by
  have h : v = .int .u8 d.toI := h
  obtain ⟨f1, f2⟩ := f
  have e1 : IntKind.u8.min = 0 := by decide
  have e2 : IntKind.u8.max = 255 := by decide
  refine ⟨UInt8.ofNat d.toI.toNat, ?_⟩
  rw [h]
  unfold bv
  congr 1
  rw [UInt8.toNat_ofNat']
  omega
theorem kind_open {W : World} {cs : List Value} {ds : List D} (h : CL (zc W) [.int .u8, .int .u8, .int .u8, .int .u8, .int .u8, .int .u8, .sl [.int .u8], .str, .int .i64] cs ds) :
    ∃ (m : Mac) (uv : Value) (u : List UInt8) (s : ByteArray) (mg : Int), cs = [bv m.a, bv m.b, bv m.c, bv m.d, bv m.e, bv m.f, uv, .string s, .int .i64 mg] ∧ IsBytes W uv u ∧ u.length ≤ 140737488355328 := by
  obtain ⟨v0, r0, d0, e0, rfl, rfl, l0, f0, v1, r1, d1, e1, rfl, rfl, l1, f1, v2, r2, d2, e2, rfl, rfl, l2, f2, v3, r3, d3, e3, rfl, rfl, l3, f3, v4, r4, d4, e4, rfl, rfl, l4, f4, v5, r5, d5, e5, rfl, rfl, l5, f5, v6, r6, d6, e6, rfl, rfl, l6, f6, v7, r7, d7, e7, rfl, rfl, l7, f7, v8, r8, d8, e8, rfl, rfl, l8, f8, rfl, rfl⟩ := h
  obtain ⟨b0, rfl⟩ := lf_byte l0 f0
  obtain ⟨b1, rfl⟩ := lf_byte l1 f1
  obtain ⟨b2, rfl⟩ := lf_byte l2 f2
  obtain ⟨b3, rfl⟩ := lf_byte l3 f3
  obtain ⟨b4, rfl⟩ := lf_byte l4 f4
  obtain ⟨b5, rfl⟩ := lf_byte l5 f5
  obtain rfl : v7 = .string d7.toS := l7
  obtain rfl : v8 = .int .i64 d8.toI := l8
  have e1 : IntKind.u8.min = 0 := by decide
  have e2 : IntKind.u8.max = 255 := by decide
  refine ⟨⟨b0, b1, b2, b3, b4, b5⟩, v6, _, d7.toS, d8.toI, rfl, bytes_of (inv0 (P := Tryz.prog) W) l6 (fun i hi => ?_), ?_⟩
  · obtain ⟨q1, q2⟩ := (f6.2 i hi).1
    omega
  · have h1 := f6.1
    have e3 : szB [.int .u8] = 1 := by decide
    rw [e3, Nat.mul_one] at h1
    rw [List.length_map]
    have : d6.toL.length = d6.len := rfl
    unfold reachBytes at h1
    omega
end Go.Proofs.YtokiedeiamlnlaaGreat
