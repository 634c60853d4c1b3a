/- What the table's laws share. No condition. -/
import Derived.Test.YtkifagflnpkkaaaTabF
namespace Go.Proofs.Ytkifagflnpkkaaa
set_option linter.unusedSimpArgs false
set_option linter.unusedVariables false
-- FSX: ec, facts_tobj, macs
open Go.RowKit
set_option maxRecDepth 10000

def macs (m : Mac) : List Value := [bv m.a, bv m.b, bv m.c, bv m.d, bv m.e, bv m.f]
theorem St.both {w0 w w' : World} {G z : Nat → Prop} {O : List As} {T : List Rd} (H : St w0 G z O T w) (hb : Below w.heap.size w w') {B n : Nat} {L : List EntL} (h : BothAt (zone w0 z O w) w w' B n L) :
    ∃ X A ad c, St w0 G z (tobj X n L A :: va B [.pointer (some ⟨X, 0, none⟩), .int .i64 n, .slice ad L.length c] 31 :: O) (rdS rEnt (.slice ad L.length c) L :: T) w' := by
  obtain ⟨X, A, v, h1, h2, h3, h4, h5⟩ := h
  obtain ⟨ad, c, rfl, -, -⟩ := h5.shape
  refine ⟨X, A, ad, c, ?_⟩
  have := H.grow [tobj X n L A, va B [.pointer (some ⟨X, 0, none⟩), .int .i64 n, .slice ad L.length c] 31] [rdS rEnt (.slice ad L.length c) L] hb
    (by simp only [List.mem_cons, List.not_mem_nil, or_false, forall_eq_or_imp, forall_eq]; exact ⟨h2, h1⟩)
    (by simp only [List.mem_cons, List.not_mem_nil, or_false, forall_eq_or_imp, forall_eq]; exact ⟨fun b hb => (h4 b hb).1, fun b hb => by cases hb; exact h3⟩)
    (List.pairwise_cons.2 ⟨by simp only [List.mem_cons, List.not_mem_nil, or_false, forall_eq]; exact fun k hk e => (h4 k hk).2 e, List.pairwise_singleton _ _⟩)
    (by
      simp only [List.mem_singleton, forall_eq]
      refine SlZ.stay h5 (stay_wider fun b hb' _ => ⟨fun hl => (hb'.1 (Nat.lt_of_lt_of_le hl H.base.size)).1 hl, hb'.2.1, fun o ho => ?_⟩)
      rcases List.mem_append.1 ho with h | h
      · simp only [List.mem_cons, List.not_mem_nil, or_false] at h
        rcases h with rfl | rfl
        · exact hb'.2.2.2
        · exact hb'.2.2.1
      · intro hf
        exact (hb'.1 (H.lt h hf)).2.2 o h hf)
  simpa using this
theorem filled_at (z : Nat → Prop) (m : Int) (hm : 1 ≤ m ∧ m ≤ 64) (v : Value) (l : List EntL) (w : World) (hv : SlZ rEnt z w v l) :
    Calls Try.prog 9 #[.int .i64 m, v] w fun e w' => ∃ B n, e = .returned (.tuple #[.pointer (some ⟨B, 0, none⟩), .bool true]) ∧ Below w.heap.size w w' ∧ BothAt z w w' B n (fillTo (l.take 60)) := by
  obtain ⟨n, rfl⟩ : ∃ n : Nat, m = n := ⟨m.toNat, by omega⟩
  exact (filled_any z n (by omega) (by omega) v l w hv).mono fun e w' ⟨B, h⟩ => ⟨B, n, h⟩
theorem shard_tab (T n : Nat) (L : List EntL) (A : Nat → Prop) (k : Int) (w : World) (h : Tab w T n L A) :
    Calls Try.prog 12 #[.pointer (some ⟨T, 0, none⟩), .int .i64 k] w fun e w' => e = .returned (if 1 ≤ k ∧ k ≤ 65534 then .tuple #[.int .i64 ((k.toNat % n : Nat) : Int), .int .i64 0] else .tuple #[.int .i64 0, .int .i64 5]) ∧ w' = w := by
  obtain ⟨S, hc, _⟩ := tab_len h
  exact shard_any T S n k w (tab_none h) hc (tab_good h).2.1 (tab_good h).2.2
theorem count_one {l : List Int} (h : l.Pairwise (· < ·)) {k : Int} (hk : k ∈ l) : l.count k = 1 := by
  induction l with
  | nil => cases hk
  | cons x l ih =>
    rw [List.pairwise_cons] at h
    rcases List.mem_cons.1 hk with rfl | hk
    · rw [List.count_cons_self, List.count_eq_zero.2 (fun hm => by have := h.1 _ hm; omega)]
    · rw [List.count_cons_of_ne (by rintro rfl; have := h.1 _ hk; omega), ih h.2 hk]
theorem getE_mem {L : List EntL} (hs : L.Pairwise (fun a b => a.id < b.id)) {x : EntL} (hx : x ∈ L) : getE L x.id = (x, true) := by
  obtain ⟨i, hi, rfl⟩ := List.mem_iff_getElem.1 hx
  exact getE_yes hs (List.getElem?_eq_getElem hi) rfl

def idsOf (m : Mac) (L : List EntL) : List Int := (ofMac m L).map (·.id)
theorem idsOf_sorted {L : List EntL} (h : Good L) (m : Mac) : (idsOf m L).Pairwise (· < ·) := ids_sorted (h.filter _)
theorem idsOf_mem {L : List EntL} {x : EntL} (h : x ∈ L) : x.id ∈ idsOf x.mac L := List.mem_map.2 ⟨x, List.mem_filter.2 ⟨h, by simp⟩, rfl⟩
theorem idsOf_len {L : List EntL} (h : Good L) (m : Mac) : (idsOf m L).length ≤ 65534 := by unfold idsOf; rw [List.length_map]; exact h.flen _
theorem of_ids (T n : Nat) (L : List EntL) (A : Nat → Prop) (m : Mac) (w : World) (h : Tab w T n L A) :
    Calls Try.prog 14 #[.pointer (some ⟨T, 0, none⟩), m.v] w fun e w' => ∃ v, e = .returned v ∧ Below w.heap.size w w' ∧ w'.ownsRow w.heap.size 3 1 v (idsOf m L).length ((idsOf m L).map fun n => [Value.int .i64 n]).flatten := by
  refine (of_mac T n L A m w h).mono fun e w' ⟨v, h1, h2, h3⟩ => ⟨v, h1, h2, ?_⟩
  rw [ints_flat]
  unfold idsOf
  rw [List.length_map]
  exact h3

end Go.Proofs.Ytkifagflnpkkaaa
