/- slices.Clone, slices.Grow, slices.Concat of bytes. -/
import Derived.Test.YtokiedeiamlnlaaGreatProg
import Derived.Test.YtokiedeiamlnlaaGreatBase
import Derived.Test.YtokiedeiamlnlaaGreatPut
namespace Go.Proofs.YtokiedeiamlnlaaGreat
set_option linter.unusedSimpArgs false
set_option linter.unusedVariables false
open Go.RowKit
set_option maxRecDepth 10000

/-- 'append(nil, make([]T, n)...)', n above 0 -/
theorem run_append_make_nil {P : Program} (w : World) (t u ty e : TypeId) (i : TypeInfo) (z : Value) {k : IntKind} (ht : P.underlying t = some (.slice e)) (hu : P.underlying u = some (.int k)) (hi : P.info? e = some i) (hz : i.zero = some z)
    (n : Nat) (h0 : 0 < n) (h63 : (n : Int) ≤ 9223372036854775807) (h48 : n * i.bytes ≤ 281474976710656) (hs : 0 < i.size) :
    (Builtin.append_ #[t, u] ty #[.slice none 0 0, .int .i64 n]).run P w =
      .ok (.slice (some ⟨w.heap.size, 0, none⟩) n (grownCap w n 0 e))
        (w.drew.alloc (.cells (Builtin.zeroCells z.cells n ++ Builtin.zeroCells z.cells (grownCap w n 0 e - n)) e)) := by
  have hn : n ≠ 0 := by omega
  have h63' : ¬ (9223372036854775807 < (n : Int)) := by omega
  have h48' : ¬ (281474976710656 < Builtin.nextslicecap n 0 * i.bytes) := by rw [nextslicecap_zero h0]; omega
  have hw : IntKind.i64.wrap (n : Int) = n := by rw [IntKind.wrap_i64]; omega
  have hneg : ¬ ((n : Int) < 0) := by omega
  have hb : ¬ (281474976710656 < (n : Int) * (i.bytes : Int)) := by
    rw [← Int.natCast_mul]; omega
  have hz' : n * i.size ≠ 0 := Nat.mul_ne_zero hn (by omega)
  simp [Builtin.append_, run_underlying ht, run_underlying hu, sizeOf, typeInfo, zeroValue, hi, hz, asInt, asIntOf, Builtin.firstCells, hw, hneg, hb, hn, h63', h48', hz', Question.forced, newRow, grownCap]

/-- behind Grow: a row of no element with room -/
theorem wpList_append_make_nil {P : Program} {w : World} {ops : Array Oper} {rest : List Oper} {o : Oper} {a : Act} {Q : Exit → Act → World → Prop} (hgd : o.guard = none) (s x : Operand) (t u : TypeId)
    (ho : o.op = .call { callee := .builtin .append, args := #[s, x], argTypes := #[t, u] })
    {e : TypeId} {size bytes : Nat} {z : Value} (hE : ElemOf P t e size bytes z) {k : IntKind} (hu : P.underlying u = some (.int k))
    (hs : a.eval s = .slice none 0 0) {n : Nat} (hx : a.eval x = .int .i64 n) (h0 : 0 < n) (hb : n * bytes ≤ 140737488355328)
    (h : ∀ cap w', n ≤ cap → w'.ownsRow w.heap.size e size (.slice (some ⟨w.heap.size, 0, none⟩) 0 cap) 0 [] → Below w.heap.size w w' → wpList P ops Q rest (a.put o.dst (.slice (some ⟨w.heap.size, 0, none⟩) n cap)) w') : wpList P ops Q (o :: rest) a w := by
  obtain ⟨ht, ⟨i, hi, hz, rfl, rfl⟩, hzs, hpos, hone⟩ := hE
  have hn : n ≤ 140737488355328 := Nat.le_trans (Nat.le_mul_of_pos_right n hone) hb
  have hr := run_append_make_nil (P := P) w t u o.type e i z ht hu hi hz n h0 (by omega) (by omega) hpos
  refine wpList_plain hgd fun K hK => ?_
  unfold Oper.wp execOp
  simp only [ho, resolve, invoke, builtin, Sem.run_bind, Sem.run_pure, Result.andThen_ok, List.map_toArray, List.map_cons, List.map_nil, hs, hx, hr]
  refine hK _ _ (h _ _ (grownCap_ge w n 0 e) ⟨by simp, .inr ⟨w.heap.size, _, _, rfl, Nat.le_refl _, heap_alloc_new w.drew _, Nat.zero_le _, grownCap_le_maxLen w n 0 e (by unfold maxLen; omega), ?_, by simp⟩⟩ ((Below.refl w.heap.size w).drew.alloc (by simp) _))
  have := grownCap_ge w n 0 e
  simp only [Array.size_append, size_zeroCells, hzs, ← Nat.add_mul]
  congr 1
  omega

theorem grow_nil (n : Nat) (hn : n ≤ 140737488355328) (w : World) :
    Calls Tryz.prog 180 #[.slice none 0 0, .int .i64 n] w fun e w' => ∃ v, e = .returned v ∧ Below w.heap.size w w' ∧ w'.ownsRow w.heap.size 5 1 v 0 [] := by
  have h0 : (0 : Int) ≤ n := by omega
  by_cases hp : n = 0
  · subst hp
    go_enter Tryz.func180, Tryz.ntmps180
    go_wp2
    go_ret
    exact ⟨_, rfl, Below.refl _ _, World.ownsRow_nil _ _ _ _⟩
  · have hp' : (0 : Int) < n := by omega
    go_enter Tryz.func180, Tryz.ntmps180
    go_wp2_with (at_builtin; go_loud (refine wpList_append_make_nil rfl _ _ _ _ rfl el_u8 (k := .i64) (by kernel_rfl) rfl (n := n) rfl (by omega) (by omega) ?_))
    intro cap w' hc ho hb
    have hc' : (n : Int) ≤ cap := by omega
    go_wp2
    go_ret
    exact ⟨_, rfl, hb, ho⟩

/-- v is a slice that is not nil, of slices of bytes that read as ls -/
def IsRows (w : World) (v : Value) (ls : List (List UInt8)) : Prop :=
  ∃ x c, v = .slice (some x) ls.length c ∧ ∀ i l, ls[i]? = some l → ∃ u, w.cell? (x.add i) = some u ∧ IsBytes w u l

def cut (ls : List (List UInt8)) (i : Nat) : List UInt8 := (ls.take i).flatten
theorem cut_step {ls : List (List UInt8)} {i : Nat} {l : List UInt8} (h : ls[i]? = some l) : cut ls (i + 1) = cut ls i ++ l := by
  unfold cut
  rw [List.take_add_one, h]; simp
theorem cut_all (ls : List (List UInt8)) : cut ls ls.length = ls.flatten := by unfold cut; rw [List.take_length]
theorem cut_le (ls : List (List UInt8)) (i : Nat) : (cut ls i).length ≤ ls.flatten.length := by
  have h : ls.flatten = cut ls i ++ (ls.drop i).flatten := by unfold cut; rw [← List.flatten_append, List.take_append_drop]
  rw [h, List.length_append]; omega
def CatRel1 (w : World) (ls : List (List UInt8)) (n i : Value) (wr : World) : Prop :=
  ∃ k : Nat, k ≤ ls.length ∧ i = .int .i64 k ∧ n = .int .i64 (cut ls k).length ∧ w = wr
def CatRel2 (w : World) (ls : List (List UInt8)) (v i : Value) (wr : World) : Prop :=
  ∃ k : Nat, k ≤ ls.length ∧ i = .int .i64 k ∧ Below w.heap.size w wr ∧ wr.ownsRow w.heap.size 5 1 v (cut ls k).length ((cut ls k).map bv)

theorem concat_any (v : Value) (ls : List (List UInt8)) (hs : ls.flatten.length ≤ 140737488355328) (hk : ls.length ≤ 64) (w : World) (hv : IsRows w v ls) :
    Calls Tryz.prog 152 #[v] w fun e w' => ∃ v, e = .returned v ∧ Below w.heap.size w w' ∧ w'.ownsRow w.heap.size 5 1 v ls.flatten.length (ls.flatten.map bv) := by
  obtain ⟨x, c, rfl, hv⟩ := hv
  have Hv := Lib.hid hv
  clear hv
  go_enter Tryz.func152, Tryz.ntmps152
  go_wp2
  go_loopw [3, 11] (fun n i wr => CatRel1 w ls n i wr) (fun _ i _ => ls.length - (intOf i).toNat)
  case atStart => exact ⟨0, Nat.zero_le _, rfl, by simp [cut], rfl⟩
  case round =>
    obtain ⟨k, hk', rfl, rfl, rfl⟩ := hrel
    by_cases hlt : k < ls.length
    · obtain ⟨u, hc, hu⟩ := Hv.out k _ (List.getElem?_eq_getElem hlt)
      obtain ⟨a, cap, rfl, h1, h2⟩ := hu.shape
      have hst := Lib.hid (cut_step (List.getElem?_eq_getElem hlt))
      have hle := cut_le ls (k + 1)
      rw [hst.out, List.length_append] at hle
      have hlt' : (k : Int) < ls.length := by omega
      clear hu
      generalize hm : (ls[k]'hlt).length = m at *
      have Hm := Lib.hid hm
      clear hm
      go_wp2
      go_roundw
      case rel => exact ⟨k + 1, hlt, by go_num, by rw [hst.out, List.length_append, Hm.out]; go_num, rfl⟩
      case measure => simp [intOf]; omega
    · obtain rfl : k = ls.length := by omega
      have hn := Lib.hid (cut_all ls)
      rw [hn.out]
      obtain ⟨N, hN⟩ : ∃ N, N = ls.flatten.length := ⟨_, rfl⟩
      rw [← hN] at hs ⊢
      have HN := Lib.hid hN
      clear hN
      have HG := Lib.hid (grow_nil _ hs w)
      go_wp2_with (go_at_call 180; refine HG.out.mono ?_; rintro e w1 ⟨v1, rfl, hb1, ho1⟩)
      have Hb1 := Lib.hid hb1
      have Ho1 := Lib.hid ho1
      clear hb1 ho1
      go_loopw [6, 27] (fun v i w2 => CatRel2 w ls v i w2) (fun _ i _ => ls.length - (intOf i).toNat)
      case atStart => exact ⟨0, Nat.zero_le _, rfl, Hb1.out, by simpa [cut] using Ho1.out⟩
      case round =>
        obtain ⟨k, hk', rfl, hb, ho⟩ := hrel
        by_cases hlt : k < ls.length
        · obtain ⟨u, hc, hu⟩ := Hv.out k _ (List.getElem?_eq_getElem hlt)
          have hst := Lib.hid (cut_step (List.getElem?_eq_getElem hlt))
          have hle := cut_le ls (k + 1)
          rw [hst.out, ← HN.out, List.length_append] at hle
          have hlt' : (k : Int) < ls.length := by omega
          have hc := cell_below hc hb
          have Hsrc := Lib.hid (hu.below hb).src
          have Hb := Lib.hid hb
          have Ho := Lib.hid ho
          clear hu hb ho
          generalize hm : (ls[k]'hlt) = m at *
          clear hm
          have Hle := Lib.hid hle
          clear hle
          go_wp2_with (at_builtin; go_must (refine wpList_append_from rfl _ _ _ rfl (w.heap.size) el_u8 rfl Ho.out rfl Hsrc.out (by have := Hle.out; omega) Hb.out.size ?_); intro v' w' ho' hg' hb')
          go_roundw
          case rel => exact ⟨k + 1, hlt, by go_num, Hb.out.trans hb', by rw [hst.out, List.length_append, List.map_append]; exact ho'⟩
          case measure => simp [intOf]; omega
        · obtain rfl : k = ls.length := by omega
          have Hb := Lib.hid hb
          rw [hn.out, ← HN.out] at ho
          have Ho := Lib.hid ho
          clear hb ho
          go_wp2
          go_ret
          rw [← HN.out]
          exact ⟨_, rfl, Hb.out, Ho.out⟩
end Go.Proofs.YtokiedeiamlnlaaGreat
