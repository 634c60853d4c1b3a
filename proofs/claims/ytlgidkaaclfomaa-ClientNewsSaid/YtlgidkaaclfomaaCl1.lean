/- The client's getters, New; conciergeref26's. -/
import Derived.Test.YtlgidkaaclfomaaProg
import Derived.Test.YtlgidkaaclfomaaBase
import Derived.Test.YtlgidkaaclfomaaPut
import Derived.Test.YtlgidkaaclfomaaKind
import Derived.Test.YtlgidkaaclfomaaCat
import Derived.Test.YtlgidkaaclfomaaTags
import Derived.Test.YtlgidkaaclfomaaRg2
import Derived.Deep.MidRow
import Derived.Test.YtlgidkaaclfomaaPacket
import Derived.Test.YtlgidkaaclfomaaEther
namespace Go.Proofs.Ytlgidkaaclfomaa
open Go.RowKit
set_option maxRecDepth 10000

theorem none_no (B : Nat) (w : World) (h : w.cell? ⟨B, 37, none⟩ = some (.bool true)) :
    Calls Try.prog 13 #[.pointer (some ⟨B, 0, none⟩)] w fun e w' => e = .returned (.bool false) ∧ w' = w := by
  go_enter Try.func13, Try.ntmps13
  go_wp2
  all_goals go_ret
  all_goals exact ⟨rfl, rfl⟩

theorem phase_of (B : Nat) (w : World) (ph : Int) (h : w.cell? ⟨B, 37, none⟩ = some (.bool true)) (h2 : w.cell? ⟨B, 9, none⟩ = some (.int .i64 ph)) :
    Calls Try.prog 12 #[.pointer (some ⟨B, 0, none⟩)] w fun e w' => e = .returned (.int .i64 ph) ∧ w' = w := by
  go_enter Try.func12, Try.ntmps12
  go_wp2
  all_goals go_ret
  all_goals exact ⟨rfl, rfl⟩

theorem session_of (B : Nat) (w : World) (ph : Int) (hp : ph ≠ 3) (h : w.cell? ⟨B, 37, none⟩ = some (.bool true)) (h2 : w.cell? ⟨B, 9, none⟩ = some (.int .i64 ph)) :
    Calls Try.prog 18 #[.pointer (some ⟨B, 0, none⟩)] w fun e w' => e = .returned (.int .i64 0) ∧ w' = w := by
  go_enter Try.func18, Try.ntmps18
  go_wp2
  all_goals go_ret
  all_goals exact ⟨rfl, rfl⟩

theorem up_of (B : Nat) (w : World) (ph : Int) (hp : ph ≠ 3) (h : w.cell? ⟨B, 37, none⟩ = some (.bool true)) (h2 : w.cell? ⟨B, 9, none⟩ = some (.int .i64 ph)) :
    Calls Try.prog 20 #[.pointer (some ⟨B, 0, none⟩)] w fun e w' => e = .returned (.bool false) ∧ w' = w := by
  go_enter Try.func20, Try.ntmps20
  go_wp2
  all_goals go_ret
  all_goals exact ⟨rfl, rfl⟩

theorem address_of (B : Nat) (w : World) (ph : Int) (hp : ph ≠ 3) (h : w.cell? ⟨B, 37, none⟩ = some (.bool true)) (h2 : w.cell? ⟨B, 9, none⟩ = some (.int .i64 ph)) :
    Calls Try.prog 22 #[.pointer (some ⟨B, 0, none⟩)] w fun e w' => e = .returned (.int .i64 0) ∧ w' = w := by
  go_enter Try.func22, Try.ntmps22
  go_wp2_with (go_at_call 20; refine (up_of B _ ph hp h h2).mono ?_; rintro e w1 ⟨rfl, rfl⟩)
  all_goals go_ret
  all_goals exact ⟨rfl, rfl⟩

abbrev z8 : Value := .int .u8 0
abbrev zi : Value := .int .i64 0
abbrev zn : Value := .slice none 0 0
/-- a client's words, its state being all zero but the phase -/
def rCells (m : Mac) (u : Value) (s : ByteArray) (mg ph : Int) : Array Value :=
  #[bv m.a, bv m.b, bv m.c, bv m.d, bv m.e, bv m.f, u, .string s, .int .i64 mg, .int .i64 ph, z8, z8, z8, z8, z8, z8, zi, zi, zi, zi, zn, zi, zi, zi, zi, zi, zi, zi, zi, zi, zi, zi, zn, zi, zi, zi, .bool false]
def cCells (m : Mac) (u : Value) (s : ByteArray) (mg ph : Int) : Array Value :=
  #[bv m.a, bv m.b, bv m.c, bv m.d, bv m.e, bv m.f, u, .string s, .int .i64 mg, .int .i64 ph, z8, z8, z8, z8, z8, z8, zi, zi, zi, zi, zn, zi, zi, zi, zi, zi, zi, zi, zi, zi, zi, zi, zn, zi, zi, zi, .bool false, .bool true]

/-- a whole block, by value -/
theorem run_var_block {P : Program} {W : World} {B : Nat} {cs : Array Value} {t : TypeId} {fr : Nat × Nat} (hb : W.heap[B]? = some (.cells cs t fr)) (ty : TypeId)
    (hu : (P.underlying ty).map (·.isRow) = some true) (hi : (P.info? ty).map (·.size) = some cs.size) :
    (loadVar ty ⟨B, 0, none⟩).run P W = .ok (.agg cs) W := by
  obtain ⟨d, hu, hd⟩ : ∃ d, P.underlying ty = some d ∧ d.isRow = true := by
    cases h : P.underlying ty with
    | none => simp [h] at hu
    | some d => simp [h] at hu; exact ⟨d, rfl, hu⟩
  have := run_loadVar_mid (P := P) W B 0 ty cs.toList d (fun j v hv => by
    rw [Nat.zero_add, cell_of_row W B j cs t fr hb]; simpa using hv) hu hd (by simpa using hi)
  simpa using this
theorem run_load_block {P : Program} {W : World} {B : Nat} {cs : Array Value} {t : TypeId} {fr : Nat × Nat} (hb : W.heap[B]? = some (.cells cs t fr)) (ty : TypeId)
    (hu : (P.underlying ty).map (·.isRow) = some true) (hi : (P.info? ty).map (·.size) = some cs.size) :
    (Instr.loadAt ty (.pointer (some ⟨B, 0, none⟩))).run P W = .ok (.agg cs) W := by
  simp only [Instr.loadAt, Instr.sureAddr, Sem.run_bind, Sem.run_pure, Result.andThen_ok, run_var_block hb ty hu hi]
/-- the load of a whole client, as the walk meets it -/
theorem wpList_load_rc {ops : Array Oper} {rest : List Oper} {op : Oper} {a : Act} {w : World} {Q : Exit → Act → World → Prop} (hgd : op.guard = none) (x : Operand) (ho : op.op = .load 37 x)
    {B : Nat} {cs : Array Value} {t : TypeId} {fr : Nat × Nat} (hx : a.eval x = .pointer (some ⟨B, 0, none⟩)) (hb : w.heap[B]? = some (.cells cs t fr)) (hs : cs.size = 37)
    (h : wpList Try.prog ops Q rest (a.put op.dst (.agg cs)) w) : wpList Try.prog ops Q (op :: rest) a w := by
  have hr := run_load_block (P := Try.prog) hb 37 (by kernel_rfl) (by rw [hs]; kernel_rfl)
  refine wpList_plain hgd fun K hK => ?_
  unfold Oper.wp execOp
  simp only [ho, hx, hr, Sem.run_bind, Sem.run_pure, Result.andThen_ok]
  exact hK _ _ h
theorem run_load_rc {W : World} {B : Nat} {cs : Array Value} {t : TypeId} {fr : Nat × Nat} (hb : W.heap[B]? = some (.cells cs t fr)) (hs : cs.size = 37) :
    (Instr.loadAt 37 (.pointer (some ⟨B, 0, none⟩))).run Try.prog W = .ok (.agg cs) W :=
  run_load_block hb _ (by kernel_rfl) (by rw [hs]; kernel_rfl)

theorem rid_of (cs : Array Value) (ph : Int) (h9 : cs[9]? = some (.int .i64 ph)) (hp : ph ≠ 3) (w : World) :
    Calls Try.prog 19 #[.agg cs] w fun e w' => e = .returned (.int .i64 0) ∧ Below w.heap.size w w' := by
  have e9 : (w.alloc (.cells cs 37)).cell? ⟨w.heap.size, 9, none⟩ = some (.int .i64 ph) := by rw [cell_of_row _ _ _ _ _ _ (heap_alloc_new w _)]; exact h9
  go_enter Try.func19, Try.ntmps19
  go_wp2
  all_goals go_ret
  all_goals exact ⟨rfl, (Below.refl _ _).alloc (Nat.le_refl _) _⟩
theorem rup_of (cs : Array Value) (ph : Int) (h9 : cs[9]? = some (.int .i64 ph)) (hp : ph ≠ 3) (w : World) :
    Calls Try.prog 21 #[.agg cs] w fun e w' => e = .returned (.bool false) ∧ Below w.heap.size w w' := by
  have e9 : (w.alloc (.cells cs 37)).cell? ⟨w.heap.size, 9, none⟩ = some (.int .i64 ph) := by rw [cell_of_row _ _ _ _ _ _ (heap_alloc_new w _)]; exact h9
  go_enter Try.func21, Try.ntmps21
  go_wp2
  all_goals go_ret
  all_goals exact ⟨rfl, (Below.refl _ _).alloc (Nat.le_refl _) _⟩
theorem raddress_of (cs : Array Value) (ph : Int) (h9 : cs[9]? = some (.int .i64 ph)) (hs : cs.size = 37) (hp : ph ≠ 3) (w : World) :
    Calls Try.prog 23 #[.agg cs] w fun e w' => e = .returned (.int .i64 0) ∧ Below w.heap.size w w' := by
  have HU := Lib.hid (rup_of cs ph h9 hp)
  have HN := Lib.hid (heap_alloc_new w (.cells cs 37))
  clear h9
  go_enter Try.func23, Try.ntmps23
  go_wp2_with (first | (refine wpList_load_rc rfl _ rfl rfl HN.out hs ?_) | (go_at_call 21; refine (HU.out _).mono ?_; rintro e w1 ⟨rfl, hb1⟩))
  go_ret
  exact ⟨rfl, ((Below.refl _ _).alloc (Nat.le_refl _) _).trans (hb1.mono (by simp))⟩
end Go.Proofs.Ytlgidkaaclfomaa
