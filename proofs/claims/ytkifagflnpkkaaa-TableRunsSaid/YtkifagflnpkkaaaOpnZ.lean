/- A slice that came in, as a reading. No condition. -/
import Derived.Test.YtkifagflnpkkaaaOpn
import Derived.Test.YtkifagflnpkkaaaZon
namespace Go.Proofs.Ytkifagflnpkkaaa
set_option linter.unusedSimpArgs false
set_option linter.unusedVariables false
open Go.RowKit

theorem sl_slz {α β : Type} {r : Rdr α} {R : World → List Value → β → Prop} {g : β → α} {w : World} {v : Value} {l : List β} (h : Sl r.n R w v l) (hR : ∀ cs x, R w cs x → r.R (fun _ => True) w cs (g x)) : SlZ r (fun _ => True) w v (l.map g) := by
  obtain ⟨a, cap, rfl, h1, h2, h3, h4⟩ := h
  refine ⟨a, cap, by rw [List.length_map], by rw [List.length_map]; exact h1, h2, h3, fun hne => ?_⟩
  obtain ⟨b, o, rfl, hr⟩ := h4 (by rintro rfl; exact hne rfl)
  refine ⟨b, o, rfl, trivial, fun i x hx => ?_⟩
  rw [List.getElem?_map, Option.map_eq_some_iff] at hx
  obtain ⟨y, hy, rfl⟩ := hx
  obtain ⟨cs, g1, g2⟩ := hr i y hy
  exact ⟨cs, g1, hR cs y g2⟩
theorem sl_slz' {α : Type} {r : Rdr α} {R : World → List Value → α → Prop} {w : World} {v : Value} {l : List α} (h : Sl r.n R w v l) (hR : ∀ cs x, R w cs x → r.R (fun _ => True) w cs x) : SlZ r (fun _ => True) w v l := by
  simpa using sl_slz (g := id) h hR
end Go.Proofs.Ytkifagflnpkkaaa
