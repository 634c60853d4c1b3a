/- Loads of structs and arrays as rules of the walk, a type each. No condition. -/
import Derived.Test.YtkifagflnpkkaaaGw
namespace Go.Proofs.Ytkifagflnpkkaaa
set_option linter.unusedSimpArgs false
set_option linter.unusedVariables false
set_option linter.unusedSimpArgs false
set_option linter.unusedVariables false
open Go.RowKit
set_option maxRecDepth 10000
theorem row_28 : RowOf Try.prog 28 2 := ⟨by kernel_rfl, by kernel_rfl⟩
@[go_sem ↓] theorem load_28 {ρ : Operand → Value} {dst : Option Tmp} {x : Operand} {ty : TypeId} {pos : String} {after : Array Edge} {guard : Option (Nat × Bool)} {w : World} :
    (execOp ρ { dst, op := .load 28 x, type := ty, pos, after, guard }).run Try.prog w = ldr Try.prog 28 2 (ρ x) w := exec_load_row row_28
theorem row_38 : RowOf Try.prog 38 6 := ⟨by kernel_rfl, by kernel_rfl⟩
@[go_sem ↓] theorem load_38 {ρ : Operand → Value} {dst : Option Tmp} {x : Operand} {ty : TypeId} {pos : String} {after : Array Edge} {guard : Option (Nat × Bool)} {w : World} :
    (execOp ρ { dst, op := .load 38 x, type := ty, pos, after, guard }).run Try.prog w = ldr Try.prog 38 6 (ρ x) w := exec_load_row row_38
theorem row_40 : RowOf Try.prog 40 8 := ⟨by kernel_rfl, by kernel_rfl⟩
@[go_sem ↓] theorem load_40 {ρ : Operand → Value} {dst : Option Tmp} {x : Operand} {ty : TypeId} {pos : String} {after : Array Edge} {guard : Option (Nat × Bool)} {w : World} :
    (execOp ρ { dst, op := .load 40 x, type := ty, pos, after, guard }).run Try.prog w = ldr Try.prog 40 8 (ρ x) w := exec_load_row row_40
theorem row_65 : RowOf Try.prog 65 6 := ⟨by kernel_rfl, by kernel_rfl⟩
@[go_sem ↓] theorem load_65 {ρ : Operand → Value} {dst : Option Tmp} {x : Operand} {ty : TypeId} {pos : String} {after : Array Edge} {guard : Option (Nat × Bool)} {w : World} :
    (execOp ρ { dst, op := .load 65 x, type := ty, pos, after, guard }).run Try.prog w = ldr Try.prog 65 6 (ρ x) w := exec_load_row row_65
theorem row_80 : RowOf Try.prog 80 2 := ⟨by kernel_rfl, by kernel_rfl⟩
@[go_sem ↓] theorem load_80 {ρ : Operand → Value} {dst : Option Tmp} {x : Operand} {ty : TypeId} {pos : String} {after : Array Edge} {guard : Option (Nat × Bool)} {w : World} :
    (execOp ρ { dst, op := .load 80 x, type := ty, pos, after, guard }).run Try.prog w = ldr Try.prog 80 2 (ρ x) w := exec_load_row row_80
theorem row_86 : RowOf Try.prog 86 2 := ⟨by kernel_rfl, by kernel_rfl⟩
@[go_sem ↓] theorem load_86 {ρ : Operand → Value} {dst : Option Tmp} {x : Operand} {ty : TypeId} {pos : String} {after : Array Edge} {guard : Option (Nat × Bool)} {w : World} :
    (execOp ρ { dst, op := .load 86 x, type := ty, pos, after, guard }).run Try.prog w = ldr Try.prog 86 2 (ρ x) w := exec_load_row row_86
end Go.Proofs.Ytkifagflnpkkaaa
