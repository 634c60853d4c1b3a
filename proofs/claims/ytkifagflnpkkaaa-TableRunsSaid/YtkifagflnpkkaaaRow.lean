/- Laws on a row of elements in a block of its own, whatever the element's size: copy, clear, append in the room. -/
import Derived.Test.YtkifagflnpkkaaaProg
import Derived.Test.YtkifagflnpkkaaaBase
import Derived.Deep.AppendLies
import Derived.Lib.AppendZerosOnto
import Derived.Lib.Overlaps
import Derived.Laws.OwnMore
import Derived.Laws.Externs
namespace Go.Proofs.Ytkifagflnpkkaaa
set_option linter.unusedSimpArgs false
set_option linter.unusedVariables false
open Go.RowKit
set_option maxRecDepth 10000
section
variable {P : Program}

def splice (cur : Array Value) (off : Nat) (news : List Value) : Array Value := (cur.toList.take off ++ news ++ cur.toList.drop (off + news.length)).toArray
theorem splice_toList (cur : Array Value) (off : Nat) (news : List Value) : (splice cur off news).toList = cur.toList.take off ++ news ++ cur.toList.drop (off + news.length) := rfl
theorem splice_size (cur : Array Value) (off : Nat) (news : List Value) (h : off + news.length ≤ cur.size) : (splice cur off news).size = cur.size := by
  unfold splice
  simp only [List.size_toArray, List.length_append, List.length_take, List.length_drop, Array.length_toList]
  omega

theorem run_copy_at (w : World) (dT sT ty e : TypeId) (i : TypeInfo) (ht : P.underlying dT = some (.slice e)) (hi : P.info? e = some i)
    (g off dLen dCap : Nat) (cur : Array Value) (hg : w.heap[g]? = some (.cells cur e (0, 0))) (a : Addr) (sLen sCap : Nat) (news : List Value)
    (hl : news.length = Nat.min sLen dLen * i.size) (hnews : ∀ j u, news[j]? = some u → w.cell? (a.add j) = some u) (h1 : ∀ u ∈ news, u.oneCell' = true) (hfit : off + news.length ≤ cur.size) :
    (Builtin.copy_ #[dT, sT] ty #[.slice (some ⟨g, off, none⟩) dLen dCap, .slice (some a) sLen sCap]).run P w = .ok (goInt (Nat.min sLen dLen)) (w.setRow g (splice cur off news)) := by
  have hf := run_firstCells_some (P := P) w i.size (Nat.min sLen dLen) a sLen sCap news hl hnews
  have hst := run_storeCells_at P g off e news 0 cur w hg (by simpa using hfit) h1
  simp only [Nat.add_zero] at hst
  simp [Builtin.copy_, run_underlying ht, sizeOf, typeInfo, hi, Builtin.lenOf, hf, hst, splice]

theorem run_clear_at (w : World) (t ty e : TypeId) (i : TypeInfo) (z : Value) (ht : P.underlying t = some (.slice e)) (hi : P.info? e = some i) (hz : i.zero = some z)
    (g off n c : Nat) (cur : Array Value) (hg : w.heap[g]? = some (.cells cur e (0, 0))) (hn : 0 < n) (h1 : ∀ u ∈ (Builtin.zeroCells z.cells n).toList, u.oneCell' = true) (hfit : off + (Builtin.zeroCells z.cells n).size ≤ cur.size) :
    (Builtin.clear_ #[t] ty #[.slice (some ⟨g, off, none⟩) n c]).run P w = .ok (.tuple #[]) (w.setRow g (splice cur off (Builtin.zeroCells z.cells n).toList)) := by
  have hst := run_storeCells_at P g off e (Builtin.zeroCells z.cells n).toList 0 cur w hg (by simpa using hfit) h1
  simp only [Nat.add_zero] at hst
  obtain ⟨m, rfl⟩ : ∃ m, n = m + 1 := ⟨n - 1, by omega⟩
  simp [Builtin.clear_, run_underlying ht, zeroValue, typeInfo, hi, hz, hst, splice]
/-- the elements of a row from a place on -/
theorem row_read {w : World} {g : Nat} {cur : Array Value} {e : TypeId} {fr : Nat × Nat} (hg : w.heap[g]? = some (.cells cur e fr)) {N : Nat} {xs : List Value} (hx : cur.toList.take N = xs) (o k : Nat) (ho : o = k) :
    ∀ j u, (xs.drop k)[j]? = some u → w.cell? ((⟨g, o, none⟩ : Addr).add j) = some u := by
  intro j u hu
  subst ho
  have hadd : (⟨g, o, none⟩ : Addr).add j = ⟨g, o + j, none⟩ := by unfold Addr.add; split <;> simp_all
  rw [hadd, cell_of_row w g _ _ _ _ hg]
  rw [← hx, List.getElem?_drop, List.getElem?_take] at hu
  split at hu
  · simpa using hu
  · cases hu
theorem exec_builtin_copy {o : Oper} {ev : Operand → Value} {w w' : World} (d s : Operand) (t t' : TypeId) (ho : o.op = .call { callee := .builtin .copy, args := #[d, s], argTypes := #[t, t'] }) {v u v' : Value} (hd : ev d = v) (hs : ev s = u)
    (hr : (Builtin.copy_ #[t, t'] o.type #[v, u]).run P w = .ok v' w') : (execOp ev o).run P w = .ok (.value v') w' := by
  unfold execOp
  simp only [ho, resolve, invoke, builtin, Sem.run_bind, Sem.run_pure, Result.andThen_ok, List.map_toArray, List.map_cons, List.map_nil, hd, hs, hr]
theorem wpList_copy_at {ops : Array Oper} {rest : List Oper} {o : Oper} {a : Act} {Q : Exit → Act → World → Prop} {w w' : World} (hgd : o.guard = none) (d s : Operand) (t t' : TypeId)
    (ho : o.op = .call { callee := .builtin .copy, args := #[d, s], argTypes := #[t, t'] }) {v u v' : Value} (hd : a.eval d = v) (hs : a.eval s = u)
    (hr : (Builtin.copy_ #[t, t'] o.type #[v, u]).run P w = .ok v' w') (h : wpList P ops Q rest (a.put o.dst v') w') : wpList P ops Q (o :: rest) a w := by
  refine wpList_plain hgd fun K hK => ?_
  unfold Oper.wp
  rw [exec_builtin_copy (P := P) d s t t' ho hd hs hr]
  exact hK _ _ h
theorem exec_builtin_append {o : Oper} {ev : Operand → Value} {w w' : World} (d s : Operand) (t t' : TypeId) (ho : o.op = .call { callee := .builtin .append, args := #[d, s], argTypes := #[t, t'] }) {v u v' : Value} (hd : ev d = v) (hs : ev s = u)
    (hr : (Builtin.append_ #[t, t'] o.type #[v, u]).run P w = .ok v' w') : (execOp ev o).run P w = .ok (.value v') w' := by
  unfold execOp
  simp only [ho, resolve, invoke, builtin, Sem.run_bind, Sem.run_pure, Result.andThen_ok, List.map_toArray, List.map_cons, List.map_nil, hd, hs, hr]
theorem wpList_append_at {ops : Array Oper} {rest : List Oper} {o : Oper} {a : Act} {Q : Exit → Act → World → Prop} {w w' : World} (hgd : o.guard = none) (d s : Operand) (t t' : TypeId)
    (ho : o.op = .call { callee := .builtin .append, args := #[d, s], argTypes := #[t, t'] }) {v u v' : Value} (hd : a.eval d = v) (hs : a.eval s = u)
    (hr : (Builtin.append_ #[t, t'] o.type #[v, u]).run P w = .ok v' w') (h : wpList P ops Q rest (a.put o.dst v') w') : wpList P ops Q (o :: rest) a w := by
  refine wpList_plain hgd fun K hK => ?_
  unfold Oper.wp
  rw [exec_builtin_append (P := P) d s t t' ho hd hs hr]
  exact hK _ _ h

/-- behind 'copy(s[i+1:], s[i:]); copy(s[i:], v)' -/
theorem splice_insert (cur : Array Value) (xs vs : List Value) (k N sz o1 o0 M : Nat) (ho1 : o1 = k + sz) (ho0 : o0 = k) (hM : M = N + sz) (hx : cur.toList.take N = xs) (hN : N ≤ cur.size) (hk : k ≤ N) (hv : vs.length = sz) (hroom : N + sz ≤ cur.size) :
    (splice (splice cur o1 (xs.drop k)) o0 vs).toList.take M = xs.take k ++ vs ++ xs.drop k := by
  rw [ho1, ho0, hM]
  have hxl : xs.length = N := by rw [← hx, List.length_take, Array.length_toList]; omega
  have hd : (xs.drop k).length = N - k := by rw [List.length_drop, hxl]
  have h1 : (splice cur (k + sz) (xs.drop k)).toList = cur.toList.take (k + sz) ++ xs.drop k ++ cur.toList.drop (k + sz + (N - k)) := by rw [splice_toList, hd]
  have h2 : (splice (splice cur (k + sz) (xs.drop k)) k vs).toList = (splice cur (k + sz) (xs.drop k)).toList.take k ++ vs ++ (splice cur (k + sz) (xs.drop k)).toList.drop (k + sz) := by rw [splice_toList, hv]
  have hl : (cur.toList.take (k + sz)).length = k + sz := by rw [List.length_take, Array.length_toList]; omega
  have ht : (cur.toList.take (k + sz) ++ xs.drop k ++ cur.toList.drop (k + sz + (N - k))).take k = xs.take k := by
    rw [List.append_assoc, List.take_append_of_le_length (by omega), List.take_take, Nat.min_eq_left (by omega), ← hx, List.take_take, Nat.min_eq_left hk]
  have hdp : (cur.toList.take (k + sz) ++ xs.drop k ++ cur.toList.drop (k + sz + (N - k))).drop (k + sz) = xs.drop k ++ cur.toList.drop (k + sz + (N - k)) := by
    rw [List.append_assoc]
    exact List.drop_left' hl
  rw [h2, h1, ht, hdp]
  have hlen : (xs.take k ++ vs ++ xs.drop k).length = N + sz := by
    rw [List.length_append, List.length_append, List.length_take, hv, hd, hxl]; omega
  rw [← List.append_assoc]
  exact List.take_left' hlen
/-- behind 'copy(s2[i:], v); copy(s2[i+1:], s[i:])' on a new row that begins as the old one -/
theorem splice_insert2 (C : Array Value) (xs vs : List Value) (k N sz o1 o0 M : Nat) (ho1 : o1 = k + sz) (ho0 : o0 = k) (hM : M = N + sz) (hx : xs.length = N) (hk : k ≤ N) (hC : C.toList.take k = xs.take k) (hv : vs.length = sz) :
    (splice (splice C o0 vs) o1 (xs.drop k)).toList.take M = xs.take k ++ vs ++ xs.drop k := by
  rw [ho1, ho0, hM]
  have h1 : (splice C k vs).toList = xs.take k ++ vs ++ C.toList.drop (k + sz) := by rw [splice_toList, hC, hv]
  have hl : (xs.take k ++ vs).length = k + sz := by rw [List.length_append, List.length_take, hv, hx]; omega
  rw [splice_toList, h1, List.take_left' hl]
  refine List.take_left' ?_
  rw [List.length_append, hl, List.length_drop, hx]; omega
end
end Go.Proofs.Ytkifagflnpkkaaa
