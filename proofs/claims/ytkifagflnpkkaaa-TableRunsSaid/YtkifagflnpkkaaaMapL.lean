/- A map from addresses to rows of ints, as a list of pairs: lookup, update, delete. -/
import Derived.Test.YtkifagflnpkkaaaRowE
namespace Go.Proofs.Ytkifagflnpkkaaa
set_option linter.unusedSimpArgs false
set_option linter.unusedVariables false
open Go.RowKit
set_option maxRecDepth 10000

def Mac.v (m : Mac) : Value := .agg #[bv m.a, bv m.b, bv m.c, bv m.d, bv m.e, bv m.f]
theorem Mac.ext' {m m' : Mac} (h : m.v = m'.v) : m = m' := by
  rcases m with ⟨a, b, c, d, e, f⟩
  rcases m' with ⟨a', b', c', d', e', f'⟩
  simp only [Mac.v, Value.agg.injEq, Array.mk.injEq, List.cons.injEq, Value.int.injEq, and_true, true_and, Int.natCast_inj, UInt8.toNat_inj] at h
  obtain ⟨rfl, rfl, rfl, rfl, rfl, rfl⟩ := h
  rfl
def Mac.same (m m' : Mac) : Bool := m.a == m'.a && (m.b == m'.b && (m.c == m'.c && (m.d == m'.d && (m.e == m'.e && m.f == m'.f))))
theorem Mac.same_iff {m m' : Mac} : m.same m' = true ↔ m = m' := by
  rcases m with ⟨a, b, c, d, e, f⟩
  rcases m' with ⟨a', b', c', d', e', f'⟩
  simp [Mac.same]
theorem u8_beq (a b : UInt8) : ((a.toNat : Int) == (b.toNat : Int)) = (a == b) := by
  rw [Bool.eq_iff_iff]
  simp only [beq_iff_eq]
  exact ⟨fun h => UInt8.toNat_inj.1 (by omega), fun h => by rw [h]⟩
theorem run_equal_mac (w : World) (m m' : Mac) : (Op.equal 38 m.v m'.v).run Try.prog w = .ok (m.same m') w := by
  unfold Op.equal Mac.v bv
  rw [show Op.maxDepth = 9998 + 2 from rfl, run_equalIn_six w 9998 38 5 (by kernel_rfl) (by kernel_rfl) (by kernel_rfl)]
  simp only [u8_beq]
  rfl

/-- the place and the value of an address -/
def lookAt (m : Mac) : List (Mac × Value) → Nat → Option (Nat × Value)
  | [], _ => none
  | p :: f, i => if m.same p.1 then some (i, p.2) else lookAt m f (i + 1)

theorem run_findAsking (w : World) (m : Mac) : ∀ (es : List MapEntry) (f : List (Mac × Value)) (i : Nat), es.map (fun e => (e.key, e.val)) = f.map (fun p => (p.1.v, p.2)) →
    (Instr.findAsking 38 m.v es i).run Try.prog w = .ok (lookAt m f i) w
  | [], [], i, _ => by simp [Instr.findAsking, lookAt]
  | [], _ :: _, _, h => by simp at h
  | _ :: _, [], _, h => by simp at h
  | e :: es, p :: f, i, h => by
    simp only [List.map_cons, List.cons.injEq, Prod.mk.injEq] at h
    obtain ⟨⟨h1, h2⟩, h3⟩ := h
    have ih := run_findAsking w m es f (i + 1) h3
    rw [Instr.findAsking, lookAt]
    simp only [Sem.run_bind, h1, run_equal_mac, Result.andThen_ok]
    cases hq : m.same p.1
    · simp [ih]
    · simp [h2]
theorem run_findKey (w : World) (m : Mac) (es : List MapEntry) (f : List (Mac × Value)) (h : es.map (fun e => (e.key, e.val)) = f.map (fun p => (p.1.v, p.2))) :
    (Instr.findKey 38 m.v es).run Try.prog w = .ok (lookAt m f 0) w := by
  obtain ⟨n, e', hu⟩ : ∃ n e', Try.prog.underlying 38 = some (.array n e') := ⟨6, 5, by kernel_rfl⟩
  unfold Instr.findKey
  simp only [Sem.run_bind, run_underlying hu, Result.andThen_ok]
  cases es with
  | nil =>
    cases f with
    | nil => simp [Instr.findNow, lookAt]
    | cons p f => simp at h
  | cons e es =>
    have : Instr.findNow (.array n e') m.v (e :: es) 0 = none := by
      simp [Instr.findNow, Instr.sameNow]
    rw [this]
    exact run_findAsking w m _ f 0 h
theorem run_checkKey_u8 (w : World) (b : Bool) (n : Nat) (v : Value) : (Instr.checkKey b (n + 1) 5 v).run Try.prog w = .ok () w := by
  have hv : Try.prog.underlying 5 = some (.int .u8) := by kernel_rfl
  rw [Instr.checkKey]
  simp only [Sem.run_bind, run_underlying hv, Result.andThen_ok]
  simp
theorem run_checkKey (w : World) (b : Bool) (m : Mac) : (Instr.checkKey b 10000 38 m.v).run Try.prog w = .ok () w := by
  have hu : Try.prog.underlying 38 = some (.array 6 5) := by kernel_rfl
  have hv : Try.prog.underlying 5 = some (.int .u8) := by kernel_rfl
  have hk := fun w v => run_checkKey_u8 w b 9998 v
  obtain ⟨i, hi1, hi2⟩ : ∃ i, Try.prog.info? 5 = some i ∧ i.size = 1 := ⟨_, rfl, rfl⟩
  unfold Mac.v
  rw [show (10000 : Nat) = 9998 + 1 + 1 from rfl, Instr.checkKey]
  generalize 9998 + 1 = N at *
  simp only [Sem.run_bind, run_underlying hu, Result.andThen_ok]
  simp [sizeOf, typeInfo, hi1, hi2, Std.Legacy.Range.forIn_eq_forIn_range', List.range', part, isAgg, run_underlying hv, hk]

def MapAt (w : World) (M : Nat) (f : List (Mac × Value)) : Prop := ∃ es clock, w.heap[M]? = some (.map es clock) ∧ es.toList.map (fun e => (e.key, e.val)) = f.map (fun p => (p.1.v, p.2)) ∧ (f.map (·.1)).Nodup

theorem run_getObj_map {w : World} {r : Nat} {es : Array MapEntry} {clock : Nat} (h : w.heap[r]? = some (.map es clock)) : (getObj r).run Try.prog w = .ok (.map es clock) w := by
  simp [getObj, Sem.run, h]

/-- 'x.by[m]' -/
def found (f : List (Mac × Value)) (m : Mac) : Value := match lookAt m f 0 with | some (_, v) => v | none => .agg #[.slice none 0 0, .slice none 0 0]
theorem run_lookup (w : World) (M : Nat) (f : List (Mac × Value)) (m : Mac) (h : MapAt w M f) : (Instr.lookup 67 (.map (some M)) m.v false).run Try.prog w = .ok (found f m) w := by
  obtain ⟨es, clock, hM, hes, -⟩ := h
  have hu : Try.prog.underlying 67 = some (.map 38 86) := by kernel_rfl
  obtain ⟨j, hj, hz⟩ : ∃ j, Try.prog.info? 86 = some j ∧ j.zero = some (.agg #[.slice none 0 0, .slice none 0 0]) := ⟨_, rfl, rfl⟩
  unfold Instr.lookup found
  simp only [Sem.run_bind, run_underlying hu, Result.andThen_ok, run_getObj_map hM, Sem.run_pure, run_checkKey, run_findKey w m _ f hes]
  cases lookAt m f 0 with
  | none => simp [zeroValue, typeInfo, hj, hz]
  | some p => simp

def World.putObj (w : World) (M : Nat) (o : Obj) : World := { w with heap := w.heap.setIfInBounds M o }
theorem run_setObj_map {w : World} {r : Nat} {es : Array MapEntry} {clock : Nat} (h : w.heap[r]? = some (.map es clock)) (es' : Array MapEntry) (c' : Nat) : (setObj r (.map es' c')).run Try.prog w = .ok () (World.putObj w r (.map es' c')) := by
  simp [setObj, Sem.run, h, World.putObj]
theorem putObj_at {w : World} {M : Nat} {o' : Obj} (h : w.heap[M]? = some o') (o : Obj) : (World.putObj w M o).heap[M]? = some o := by
  have := (Array.getElem?_eq_some_iff.1 h).1
  simp [World.putObj, this]
theorem kept_putObj (w : World) (M : Nat) (o : Obj) : Kept w (World.putObj w M o) (fun k => k = M) :=
  ⟨rfl, rfl, rfl, by simp [World.putObj], fun k _ hn => by simp [World.putObj, Array.getElem?_setIfInBounds_ne (fun e => hn e.symm)]⟩
theorem sameBits_mac (m : Mac) : Instr.sameBits 10000 m.v m.v = true := by
  rw [show (10000 : Nat) = 9998 + 1 + 1 from rfl]
  simp [Instr.sameBits, Mac.v]

theorem lookAt_some (m : Mac) : ∀ (f : List (Mac × Value)) (i j : Nat) (v : Value), lookAt m f i = some (j, v) → ∃ d, j = i + d ∧ f[d]? = some (m, v)
  | [], _, _, _, h => by simp [lookAt] at h
  | p :: f, i, j, v, h => by
    rw [lookAt] at h
    split at h
    · rename_i hq
      simp only [Option.some.injEq, Prod.mk.injEq] at h
      obtain ⟨rfl, rfl⟩ := h
      exact ⟨0, rfl, by rw [Mac.same_iff.1 hq]; rfl⟩
    · obtain ⟨d, h1, h2⟩ := lookAt_some m f (i + 1) j v h
      exact ⟨d + 1, by omega, by simpa using h2⟩
def upd (f : List (Mac × Value)) (m : Mac) (v : Value) : List (Mac × Value) := match lookAt m f 0 with | some (i, _) => f.set i (m, v) | none => f ++ [(m, v)]
theorem lookAt_none (m : Mac) : ∀ (f : List (Mac × Value)) (i : Nat), lookAt m f i = none → m ∉ f.map (·.1)
  | [], _, _ => by simp
  | p :: f, i, h => by
    rw [lookAt] at h
    by_cases hq : m.same p.1 = true
    · rw [if_pos hq] at h; cases h
    · rw [if_neg hq] at h
      simp only [List.map_cons, List.mem_cons, not_or]
      exact ⟨fun e => hq (Mac.same_iff.2 e), lookAt_none m f (i + 1) h⟩
theorem set_keys {f : List (Mac × Value)} {i : Nat} {m : Mac} {u v : Value} (h : f[i]? = some (m, u)) : (f.set i (m, v)).map (·.1) = f.map (·.1) := by
  obtain ⟨hi, h1⟩ := List.getElem?_eq_some_iff.1 h
  rw [List.map_set]
  apply List.ext_getElem?
  intro q
  rw [List.getElem?_set]
  by_cases e : i = q
  · subst e
    rw [if_pos rfl, if_pos (by simpa using hi)]
    simp [h]
  · rw [if_neg e]
theorem run_update (w : World) (M : Nat) (f : List (Mac × Value)) (m : Mac) (v : Value) (h : MapAt w M f) :
    ∃ w', (Instr.mapUpdate 67 (.map (some M)) m.v v).run Try.prog w = .ok () w' ∧ MapAt w' M (upd f m v) ∧ Kept w w' (fun k => k = M) := by
  obtain ⟨es, clock, hM, hes, hnd⟩ := h
  have hu : Try.prog.underlying 67 = some (.map 38 86) := by kernel_rfl
  unfold Instr.mapUpdate upd
  simp only [Sem.run_bind, run_underlying hu, Result.andThen_ok, run_getObj_map hM, run_checkKey, run_findKey w m _ f hes]
  cases hq : lookAt m f 0 with
  | none =>
    refine ⟨_, run_setObj_map hM _ _, ⟨_, _, putObj_at hM _, by simp [hes], ?_⟩, kept_putObj w M _⟩
    rw [List.map_append]
    exact List.nodup_append.2 ⟨hnd, by simp, fun x hx y hy e => by have h := e.trans (by simpa using hy); exact lookAt_none m f 0 hq (h ▸ hx)⟩
  | some p =>
    obtain ⟨i, u⟩ := p
    obtain ⟨d, h1, h2⟩ := lookAt_some m f 0 i u hq
    obtain rfl : i = d := by omega
    have hk : es[i]?.map (·.key) = some m.v := by
      have := congrArg (fun l => (l[i]?).map Prod.fst) hes
      simpa [h2] using this
    simp only [hk, Option.getD_some, Instr.keyThatStays, sameBits_mac, if_true, Sem.run_pure, Result.andThen_ok]
    refine ⟨_, run_setObj_map hM _ _, ⟨_, _, putObj_at hM _, ?_, by rw [set_keys h2]; exact hnd⟩, kept_putObj w M _⟩
    apply List.ext_getElem?
    intro q
    have hq' := congrArg (fun l => l[q]?) hes
    simp only [List.getElem?_map, Array.getElem?_toList] at hq'
    simp only [List.getElem?_map, Array.getElem?_toList, Array.getElem?_modify, List.getElem?_set]
    by_cases hqi : i = q
    · subst hqi
      have hlt : i < f.length := (List.getElem?_eq_some_iff.1 h2).1
      rw [h2] at hq'
      cases he : es[i]? with
      | none => rw [he] at hq'; simp at hq'
      | some e => simp [hlt]
    · simp only [hqi, if_false]
      exact hq'
end Go.Proofs.Ytkifagflnpkkaaa
