/- The client's getters, New; conciergeref26's. -/
import Derived.Test.YtokiedeiamlnlaaGreatProg
import Derived.Test.YtokiedeiamlnlaaGreatBase
import Derived.Test.YtokiedeiamlnlaaGreatPut
import Derived.Test.YtokiedeiamlnlaaGreatKind
import Derived.Test.YtokiedeiamlnlaaGreatCat
import Derived.Test.YtokiedeiamlnlaaGreatTags
import Derived.Test.YtokiedeiamlnlaaGreatRg2
import Derived.Deep.MidRow
import Derived.Test.YtokiedeiamlnlaaGreatPacket
import Derived.Test.YtokiedeiamlnlaaGreatEther
namespace Go.Proofs.YtokiedeiamlnlaaGreat
set_option linter.unusedSimpArgs false
set_option linter.unusedVariables false
open Go.RowKit
set_option maxRecDepth 10000

theorem none_no (B : Nat) (w : World) (h : w.cell? ⟨B, 37, none⟩ = some (.bool true)) :
    Calls Tryz.prog 27 #[.pointer (some ⟨B, 0, none⟩)] w fun e w' => e = .returned (.bool false) ∧ w' = w := by
  go_enter Tryz.func27, Tryz.ntmps27
  go_wp2
  all_goals go_ret
  all_goals exact ⟨rfl, rfl⟩

theorem phase_of (B : Nat) (w : World) (ph : Int) (h : w.cell? ⟨B, 37, none⟩ = some (.bool true)) (h2 : w.cell? ⟨B, 9, none⟩ = some (.int .i64 ph)) :
    Calls Tryz.prog 9 #[.pointer (some ⟨B, 0, none⟩)] w fun e w' => e = .returned (.int .i64 ph) ∧ w' = w := by
  go_enter Tryz.func9, Tryz.ntmps9
  go_wp2
  all_goals go_ret
  all_goals exact ⟨rfl, rfl⟩

theorem session_of (B : Nat) (w : World) (ph : Int) (hp : ph ≠ 3) (h : w.cell? ⟨B, 37, none⟩ = some (.bool true)) (h2 : w.cell? ⟨B, 9, none⟩ = some (.int .i64 ph)) :
    Calls Tryz.prog 10 #[.pointer (some ⟨B, 0, none⟩)] w fun e w' => e = .returned (.int .i64 0) ∧ w' = w := by
  go_enter Tryz.func10, Tryz.ntmps10
  go_wp2
  all_goals go_ret
  all_goals exact ⟨rfl, rfl⟩

theorem up_of (B : Nat) (w : World) (ph : Int) (hp : ph ≠ 3) (h : w.cell? ⟨B, 37, none⟩ = some (.bool true)) (h2 : w.cell? ⟨B, 9, none⟩ = some (.int .i64 ph)) :
    Calls Tryz.prog 12 #[.pointer (some ⟨B, 0, none⟩)] w fun e w' => e = .returned (.bool false) ∧ w' = w := by
  go_enter Tryz.func12, Tryz.ntmps12
  go_wp2
  all_goals go_ret
  all_goals exact ⟨rfl, rfl⟩

theorem address_of (B : Nat) (w : World) (ph : Int) (hp : ph ≠ 3) (h : w.cell? ⟨B, 37, none⟩ = some (.bool true)) (h2 : w.cell? ⟨B, 9, none⟩ = some (.int .i64 ph)) :
    Calls Tryz.prog 11 #[.pointer (some ⟨B, 0, none⟩)] w fun e w' => e = .returned (.int .i64 0) ∧ w' = w := by
  go_enter Tryz.func11, Tryz.ntmps11
  go_wp2_with (go_at_call 12; refine (up_of B _ ph hp h h2).mono ?_; rintro e w1 ⟨rfl, rfl⟩)
  all_goals go_ret
  all_goals exact ⟨rfl, rfl⟩

abbrev z8 : Value := .int .u8 0
abbrev zi : Value := .int .i64 0
abbrev zn : Value := .slice none 0 0
/-- a client's words, its state being all zero but the phase -/
def rCells (m : Mac) (u : Value) (s : ByteArray) (mg ph : Int) : Array Value :=
  #[bv m.a, bv m.b, bv m.c, bv m.d, bv m.e, bv m.f, u, .string s, .int .i64 mg, .int .i64 ph, z8, z8, z8, z8, z8, z8, zi, zi, zi, zi, zn, zi, zi, zi, zi, zi, zi, zi, zi, zi, zi, zi, zn, zi, zi, zi, .bool false]
def cCells (m : Mac) (u : Value) (s : ByteArray) (mg ph : Int) : Array Value :=
  #[bv m.a, bv m.b, bv m.c, bv m.d, bv m.e, bv m.f, u, .string s, .int .i64 mg, .int .i64 ph, z8, z8, z8, z8, z8, z8, zi, zi, zi, zi, zn, zi, zi, zi, zi, zi, zi, zi, zi, zi, zi, zi, zn, zi, zi, zi, .bool false, .bool true]

/-- a whole block, by value -/
theorem run_var_block {P : Program} {W : World} {B : Nat} {cs : Array Value} {t : TypeId} {fr : Nat × Nat} (hb : W.heap[B]? = some (.cells cs t fr)) (ty : TypeId)
    (hu : (P.underlying ty).map (·.isRow) = some true) (hi : (P.info? ty).map (·.size) = some cs.size) :
    (loadVar ty ⟨B, 0, none⟩).run P W = .ok (.agg cs) W := by
  obtain ⟨d, hu, hd⟩ : ∃ d, P.underlying ty = some d ∧ d.isRow = true := by
    cases h : P.underlying ty with
    | none => simp [h] at hu
    | some d => simp [h] at hu; exact ⟨d, rfl, hu⟩
  have := run_loadVar_mid (P := P) W B 0 ty cs.toList d (fun j v hv => by
    rw [Nat.zero_add, cell_of_row W B j cs t fr hb]; simpa using hv) hu hd (by simpa using hi)
  simpa using this
theorem run_load_block {P : Program} {W : World} {B : Nat} {cs : Array Value} {t : TypeId} {fr : Nat × Nat} (hb : W.heap[B]? = some (.cells cs t fr)) (ty : TypeId)
    (hu : (P.underlying ty).map (·.isRow) = some true) (hi : (P.info? ty).map (·.size) = some cs.size) :
    (Instr.loadAt ty (.pointer (some ⟨B, 0, none⟩))).run P W = .ok (.agg cs) W := by
  simp only [Instr.loadAt, Instr.sureAddr, Sem.run_bind, Sem.run_pure, Result.andThen_ok, run_var_block hb ty hu hi]
/-- the load of a whole client, as the walk meets it -/
theorem wpList_load_rc {ops : Array Oper} {rest : List Oper} {op : Oper} {a : Act} {w : World} {Q : Exit → Act → World → Prop} (hgd : op.guard = none) (x : Operand) (ho : op.op = .load 53 x)
    {B : Nat} {cs : Array Value} {t : TypeId} {fr : Nat × Nat} (hx : a.eval x = .pointer (some ⟨B, 0, none⟩)) (hb : w.heap[B]? = some (.cells cs t fr)) (hs : cs.size = 37)
    (h : wpList Tryz.prog ops Q rest (a.put op.dst (.agg cs)) w) : wpList Tryz.prog ops Q (op :: rest) a w := by
  have hr := run_load_block (P := Tryz.prog) hb 53 (by kernel_rfl) (by rw [hs]; kernel_rfl)
  refine wpList_plain hgd fun K hK => ?_
  unfold Oper.wp execOp
  simp only [ho, hx, hr, Sem.run_bind, Sem.run_pure, Result.andThen_ok]
  exact hK _ _ h
theorem run_load_rc {W : World} {B : Nat} {cs : Array Value} {t : TypeId} {fr : Nat × Nat} (hb : W.heap[B]? = some (.cells cs t fr)) (hs : cs.size = 37) :
    (Instr.loadAt 53 (.pointer (some ⟨B, 0, none⟩))).run Tryz.prog W = .ok (.agg cs) W :=
  run_load_block hb _ (by kernel_rfl) (by rw [hs]; kernel_rfl)

end Go.Proofs.YtokiedeiamlnlaaGreat
