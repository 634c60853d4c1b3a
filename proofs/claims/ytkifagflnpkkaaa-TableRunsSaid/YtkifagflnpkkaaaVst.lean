/- Stores into a slice of one's own. No condition. -/
import Derived.Test.YtkifagflnpkkaaaArm
namespace Go.Proofs.Ytkifagflnpkkaaa
set_option linter.unusedSimpArgs false
set_option linter.unusedVariables false
open Go.RowKit
set_option maxRecDepth 10000

theorem putAt_take {cs : List Value} {o m : Nat} {new : List Value} (h : o + new.length ≤ m) (hm : m ≤ cs.length) : (putAt cs o new).take m = putAt (cs.take m) o new := by
  unfold putAt
  have e1 : cs.take o = (cs.take m).take o := by rw [List.take_take, Nat.min_eq_left (by omega)]
  have hl : (cs.take o ++ new).length = o + new.length := by rw [List.length_append, List.length_take]; omega
  rw [List.take_append, hl, ← e1, List.drop_take, List.take_of_length_le (by rw [hl]; exact h)]
theorem own_addr {w : World} {base e size : Nat} {ad : Option Addr} {n c : Nat} {xs : List Value} (h : w.ownsRow base e size (.slice ad n c) n xs) (hn : 0 < n) : ∃ g, ad = some ⟨g, 0, none⟩ := by
  rcases h.2 with ⟨_, h0⟩ | ⟨g, cap, cur, h1, _⟩
  · omega
  · injection h1 with h1; exact ⟨g, h1⟩
section
variable {P : Program} {ops : Array Oper} {Q : Exit → Act → World → Prop} {w0 w : World} {G z : Nat → Prop} {O : List As} {T : List Rd} {l rest : List Oper} {o : Oper} {a : Act}
theorem St.putv (H : St w0 G z O T w) (i : Nat) {e size g n c : Nat} {xs : List Value} (hO : O[i]? = some (vec e size (.slice (some ⟨g, 0, none⟩) n c) n xs)) (off : Nat) (new : List Value) (hle : off + new.length ≤ xs.length) (h1 : ∀ u ∈ new, u.oneCell' = true) :
    ∃ W, (storeCells ⟨g, off, none⟩ new).run P w = .ok () W ∧ St w0 G z (O.set i (vec e size (.slice (some ⟨g, 0, none⟩) n c) n (putAt xs off new))) T W ∧ w.heap.size ≤ W.heap.size := by
  have hb : w.ownsRow 0 e size (.slice (some ⟨g, 0, none⟩) n c) n xs := H.has i hO
  obtain ⟨hl, hb⟩ := hb
  rcases hb with ⟨h, _⟩ | ⟨g', cap, cur, hv, _, hg, k1, k2, k3, k4⟩
  · cases h
  cases hv
  have hle2 : n * size ≤ c * size := Nat.mul_le_mul_right _ k1
  have hcl : cur.toList.length = c * size := by simpa using k3
  obtain ⟨w', h2, h3, h4⟩ := run_storeCells (P := P) new cur.toList off 0 w hg (by omega) h1
  refine ⟨w', h2, ?_, h4.size⟩
  have hown : w'.ownsRow 0 e size (.slice (some ⟨g, 0, none⟩) n c) n (putAt xs off new) := by
    refine ⟨by rw [putAt_len hle, hl], .inr ⟨g, c, _, rfl, Nat.zero_le _, h3, k1, k2, ?_, ?_⟩⟩
    · show (putAt cur.toList (off + 0) new).length = _
      rw [putAt_len (by omega), hcl]
    · show (putAt cur.toList (off + 0) new).take _ = _
      rw [putAt_take (by omega) (by omega), k4]
      rfl
  have := H.upd i hO (vec e size (.slice (some ⟨g, 0, none⟩) n c) n (putAt xs off new)) (w' := w') ⟨h4.os, h4.tape, h4.output, h4.size, fun k hk hn => h4.block k hk (fun e => hn (by subst e; rfl))⟩ hown (fun b hb => .inl hb) [] (by simp)
  simpa using this
/-- a store into an element of one's own slice -/
theorem wl_storev (H : St w0 G z O T w) (i : Nat) {e size g n c : Nat} {xs : List Value} (hO : O[i]? = some (vec e size (.slice (some ⟨g, 0, none⟩) n c) n xs)) {ty : TypeId} {x y : Operand} (ho : o.op = .store ty x y) {off : Nat} (hx : a.eval x = .pointer (some ⟨g, off, none⟩)) (hw : Region.wanted o (yielded ops a.tmps) = true)
    {new : List Value} (hn : (a.eval y).cells.toList = new) (hsz : (P.info? ty).map (·.size) = some new.length) (hle : off + new.length ≤ xs.length) (h1 : ∀ u ∈ new, u.oneCell' = true)
    (h : ∀ W, St w0 G z (O.set i (vec e size (.slice (some ⟨g, 0, none⟩) n c) n (putAt xs off new))) T W → w.heap.size ≤ W.heap.size → wpList P ops Q rest (a.put o.dst undef) W) : wpList P ops Q (o :: rest) a w := by
  obtain ⟨W, h2, h3, h4⟩ := H.putv (P := P) i hO off new hle h1
  refine BigFrame.wpList_want hw fun K hK => ?_
  unfold Oper.wp
  rw [exec_store_at ho hx hn hsz h2, Oper.upon_skip]
  exact hK _ _ (h W h3 h4)
/-- a slice of one's own that a call handed back -/
theorem St.getv (H : St w0 G z O T w) {w' : World} (hb : Below w.heap.size w w') {e size : Nat} {v : Value} {n : Nat} {xs : List Value} (ho : w'.ownsRow w.heap.size e size v n xs) : St w0 G z (vec e size v n xs :: O) T w' := by
  refine H.gets hb (vec e size v n xs) ⟨ho.1, ho.2.imp_right (by rintro ⟨g, cap, cur, h1, h2, h3⟩; exact ⟨g, cap, cur, h1, Nat.zero_le _, h3⟩)⟩ fun b hb => ?_
  have := ho.lt b hb
  exact this.1
theorem va_rng {B : Nat} {cs : List Value} {t : TypeId} (h : (va B cs t).holds w) : rng w B 0 cs.length = some cs := by
  have hb : w.heap[B]? = some (.cells cs.toArray t (0, 0)) := h
  unfold rng; rw [hb]; simp
end
end Go.Proofs.Ytkifagflnpkkaaa
