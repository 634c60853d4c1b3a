/- A call that changes what its caller owns: both sides. No condition. -/
import Derived.Test.YtkifagflnpkkaaaArm
namespace Go.Proofs.Ytkifagflnpkkaaa
set_option linter.unusedSimpArgs false
set_option linter.unusedVariables false
open Go.RowKit

/-- the blocks of some owned things -/
def feet (O : List As) : Nat → Prop := fun b => ∃ o ∈ O, o.foot b
section
variable {w0 w w' : World} {G z : Nat → Prop} {Oi Or Oo O : List As} {T Ti To : List Rd}
theorem feet_nil {b : Nat} : ¬ feet [] b := by rintro ⟨_, h, _⟩; cases h
/-- what a call is handed: some of what is owned, some of the readings -/
theorem St.lend (H : St w0 G z (Oi ++ Or) T w) (hT : ∀ r ∈ Ti, r ∈ T) : St w (feet Oi) (zone w0 z (Oi ++ Or) w) Oi Ti w := by
  refine St.begin w _ _ Oi Ti (fun o ho => H.own o (List.mem_append_left _ ho)) (fun o ho b hb => ⟨⟨o, ho, hb⟩, fun hz => hz.2.2 o (List.mem_append_left _ ho) hb⟩) (List.pairwise_append.1 H.apart).1 (fun r hr => H.rds r (hT r hr))
/-- what it hands back -/
theorem St.step (H : St w0 G z (Oi ++ Or) T w) (K : St w (feet Oi) (zone w0 z (Oi ++ Or) w) Oo To w') : St w0 G z (Oo ++ Or) (To ++ T) w' := by
  obtain ⟨a1, a2, a3⟩ := List.pairwise_append.1 H.apart
  have hOi : ∀ k, feet Oi k → k < w.heap.size ∧ (w0.heap.size ≤ k ∨ G k) := fun k ⟨o, ho, hk⟩ => ⟨H.lt (List.mem_append_left _ ho) hk, H.new o (List.mem_append_left _ ho) k hk⟩
  refine ⟨⟨K.base.os.trans H.base.os, K.base.tape.trans H.base.tape, K.base.output.trans H.base.output, Nat.le_trans H.base.size K.base.size, fun k hk hG => (K.base.block k (Nat.lt_of_lt_of_le hk H.base.size) (fun hf => ?_)).trans (H.base.block k hk hG)⟩, ?_, ?_, ?_, ?_⟩
  · rcases (hOi k hf).2 with h | h
    · omega
    · exact hG h
  · intro o ho
    rcases List.mem_append.1 ho with h | h
    · exact K.own o h
    · exact o.kept (H.own o (List.mem_append_right _ h)) K.base fun b hb ⟨o', ho', hb'⟩ => a3 o' ho' o h b hb' hb
  · intro o ho b hb
    rcases List.mem_append.1 ho with h | h
    · rcases K.new o h b hb with h1 | h1
      · exact .inl (Nat.le_trans H.base.size h1)
      · exact (hOi b h1).2
    · exact H.new o (List.mem_append_right _ h) b hb
  · refine List.pairwise_append.2 ⟨K.apart, a2, fun a ha b hb k h1 h2 => ?_⟩
    rcases K.new a ha k h1 with h | ⟨o, ho, hk⟩
    · have := H.lt (List.mem_append_right _ hb) h2; omega
    · exact a3 o ho b hb k hk h2
  · intro r hr
    rcases List.mem_append.1 hr with h | h
    · refine r.stay (K.rds r h) (stay_wider fun b hb hl => ⟨fun hl0 => (hb.1 (Nat.lt_of_lt_of_le hl0 H.base.size)).1 hl0, hb.2.1, fun o ho hf => ?_⟩)
      rcases List.mem_append.1 ho with h' | h'
      · exact hb.2.2 o h' hf
      · exact (hb.1 (H.lt (List.mem_append_right _ h') hf)).2.2 o (List.mem_append_right _ h') hf
    · refine r.stay (H.rds r h) fun b hb hl => ⟨K.base.block b hl (fun ⟨o, ho, hf⟩ => hb.2.2 o (List.mem_append_left _ ho) hf), hb.1, Nat.lt_of_lt_of_le hl K.base.size, fun o ho hf => ?_⟩
      rcases List.mem_append.1 ho with h' | h'
      · rcases K.new o h' b hf with h1 | ⟨o', ho', hf'⟩
        · omega
        · exact hb.2.2 o' (List.mem_append_left _ ho') hf'
      · exact hb.2.2 o (List.mem_append_right _ h') hf
theorem St.step0 (H : St w0 G z O T w) (K : St w (feet []) (zone w0 z O w) Oo To w') : St w0 G z (Oo ++ O) (To ++ T) w' := St.step (Oi := []) H K
theorem St.lend0 (H : St w0 G z O T w) (hT : ∀ r ∈ Ti, r ∈ T) : St w (feet []) (zone w0 z O w) [] Ti w := St.lend (Oi := []) H hT
theorem St.below0 (H : St w0 (feet []) z O T w) : Below w0.heap.size w0 w := H.below fun k h => absurd h feet_nil
/-- a start that owns nothing -/
theorem St.open (w : World) (z : Nat → Prop) (T : List Rd) (h : ∀ r ∈ T, r.p z w) : St w (feet []) z [] T w := St.begin w _ _ [] T (by simp) (by simp) .nil h
/-- an own slice is read from here on -/
theorem St.fz {α : Type} {r : Rdr α} {f : α → List Value} {e n : Nat} {v : Value} {l : List α} (H : St w0 G z (vec e r.n v n (l.map f).flatten :: O) T w) (hG : ∀ k, ¬ G k) (hl : ∀ x, (f x).length = r.n) (hn : 0 < r.n) (hf : ∀ {z w x}, x ∈ l → r.R z w (f x) x) : St w0 G z O (rdS r v l :: T) w := by
  have ha := List.pairwise_cons.1 H.apart
  refine H.freeze 0 (rdS r v l) (slz_vec (H.has 0 rfl) hl hn (fun b hb => ?_) (fun x hx => hf hx))
  have h1 := (H.new _ List.mem_cons_self b hb).resolve_right (hG b)
  exact ⟨fun h => by omega, H.lt List.mem_cons_self hb, fun o ho hf => ha.1 o ho b hb hf⟩
end
end Go.Proofs.Ytkifagflnpkkaaa
