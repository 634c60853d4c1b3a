/- A region that draws its order, over the state of a walk. No condition. -/
import Derived.Test.YtkifagflnpkkaaaArm
namespace Go.Proofs.Ytkifagflnpkkaaa
set_option linter.unusedSimpArgs false
set_option linter.unusedVariables false
open Go.RowKit
section
variable {P : Program} {ops : Array Oper} {Q : Exit → Act → World → Prop} {S : World → Prop}

def rdsOk (ops : Array Oper) : List Nat → Array Bool → Bool
  | [], _ => true
  | i :: is, listed => Region.noSelect ops && Region.free .any ops listed i && (Region.ready .any ops listed).contains i && rdsOk ops is (listed.setIfInBounds i true)
def marked : List Nat → Array Bool → Array Bool
  | [], listed => listed
  | i :: is, listed => marked is (listed.setIfInBounds i true)
/-- reads, one by one -/
def wpRds (P : Program) (ops : Array Oper) (S : World → Prop) : List Nat → Act → (Act → Prop) → Prop
  | [], a, K => K a
  | i :: is, a, K => ∃ oi, ops.toList[i]? = some oi ∧ ((Region.wanted oi (yielded ops a.tmps) = true ∧ ∃ v, (∀ W, S W → (execOp a.eval oi).run P W = .ok (.value v) W) ∧ wpRds P ops S is (a.put oi.dst v) K) ∨ (Region.wanted oi (yielded ops a.tmps) = false ∧ wpRds P ops S is (a.put oi.dst undef) K))
theorem rd_step {i : Nat} {is : List Nat} {a : Act} {K : Act → Prop} {oi : Oper} {v : Value} (hi : ops.toList[i]? = some oi) (hw : Region.wanted oi (yielded ops a.tmps) = true) (hy : ∀ W, S W → (execOp a.eval oi).run P W = .ok (.value v) W)
    (h : wpRds P ops S is (a.put oi.dst v) K) : wpRds P ops S (i :: is) a K := ⟨oi, hi, .inl ⟨hw, v, hy, h⟩⟩
theorem rd_skip {i : Nat} {is : List Nat} {a : Act} {K : Act → Prop} {oi : Oper} (hi : ops.toList[i]? = some oi) (hw : Region.wanted oi (yielded ops a.tmps) = false)
    (h : wpRds P ops S is (a.put oi.dst undef) K) : wpRds P ops S (i :: is) a K := ⟨oi, hi, .inr ⟨hw, h⟩⟩
theorem rd_end {a : Act} {K : Act → Prop} (h : K a) : wpRds P ops S [] a K := h
theorem rz_reads' : ∀ (is : List Nat) {listed : Array Bool} {fuel : Nat} {a : Act} {wk : World}, rdsOk ops is listed = true → is.length ≤ fuel → S wk → (∀ d v c a w, Q (.panic c) (Act.put a d v) w → Q (.panic c) a w) →
    wpRds P ops S is a (fun a' => wpAnyH P .any ops Q S (fuel - is.length) (marked is listed) a' wk) → wpAnyH P .any ops Q S fuel listed a wk
  | [], _, _, _, _, _, _, _, _, h => h
  | i :: is, listed, fuel, a, wk, hok, hf, hS, hQ, ⟨oi, hi, h⟩ => by
    simp only [rdsOk, Bool.and_eq_true] at hok
    obtain ⟨⟨⟨h1, h2⟩, h3⟩, h4⟩ := hok
    simp only [List.length_cons] at hf
    obtain ⟨fuel, rfl⟩ : ∃ f, fuel = f + 1 := ⟨fuel - 1, by omega⟩
    have hi' := Array.getElem?_toList.symm.trans hi
    rcases h with ⟨hw, v, hy, h⟩ | ⟨hw, h⟩
    · refine wpAnyH_take hi' h1 h2 h3 (fun c a w => hQ _ _ c a w) (.inl ⟨hw, hy⟩) hS (rz_reads' is h4 (by omega) hS hQ ?_)
      have e : fuel + 1 - (i :: is).length = fuel - is.length := by simp
      rw [e] at h
      exact h
    · refine wpAnyH_take hi' h1 h2 h3 (fun c a w => hQ _ _ c a w) (.inr ⟨hw, rfl⟩) hS (rz_reads' is h4 (by omega) hS hQ ?_)
      have e : fuel + 1 - (i :: is).length = fuel - is.length := by simp
      rw [e] at h
      exact h
theorem rz_reads (is : List Nat) {listed : Array Bool} {fuel : Nat} {a : Act} {wk : World} (hok : (rdsOk ops is listed && decide (is.length ≤ fuel)) = true) (hS : S wk) (hQ : ∀ d v c a w, Q (.panic c) (Act.put a d v) w → Q (.panic c) a w)
    (h : wpRds P ops S is a (fun a' => wpAnyH P .any ops Q S (fuel - is.length) (marked is listed) a' wk)) : wpAnyH P .any ops Q S fuel listed a wk := by
  simp only [Bool.and_eq_true, decide_eq_true_eq] at hok
  exact rz_reads' is hok.1 hok.2 hS hQ h
theorem rz_begin (S : World → Prop) {id : Nat} {a : Act} {w : World} (hm : P.follows .mixedOrders = true)
    (h : wpAnyH P .any ops Q S ops.size (Array.replicate ops.size false) a w.drew) : (Code.region id ops true).wp P Q a w :=
  wp_region_held hm h
theorem rz_start {w0 w : World} {G z : Nat → Prop} {O O' : List As} {T : List Rd} (H : St w0 G z O T w) (_ : O'.Sublist O) {id : Nat} {a : Act} (hm : P.follows .mixedOrders = true)
    (h : ∀ W, St w0 G z O T W → w.heap.size ≤ W.heap.size → wpAnyH P .any ops Q (St w0 G z O' T) ops.size (Array.replicate ops.size false) a W) : (Code.region id ops true).wp P Q a w :=
  wp_region_held hm (h _ (H.draw 1) (Nat.le_refl _))
/-- one operation that is none of the reads; it alone may come up -/
theorem rz_one (i : Nat) {fuel : Nat} {listed : Array Bool} {a : Act} {wk : World} (hr : (Region.ready .any ops listed == [i] && decide (0 < fuel)) = true) (h : rsSt P .any ops Q S (fuel - 1) listed a wk i) : wpAnyH P .any ops Q S fuel listed a wk := by
  simp only [Bool.and_eq_true, beq_iff_eq, decide_eq_true_eq] at hr
  obtain ⟨fuel, rfl⟩ : ∃ f, fuel = f + 1 := ⟨fuel - 1, by omega⟩
  exact rs_one hr.1 h
theorem rz_two (i j : Nat) {fuel : Nat} {listed : Array Bool} {a : Act} {wk : World} (hr : (Region.ready .any ops listed == [i, j] && decide (0 < fuel)) = true) (h : rsSt P .any ops Q S (fuel - 1) listed a wk i) (h2 : rsSt P .any ops Q S (fuel - 1) listed a wk j) : wpAnyH P .any ops Q S fuel listed a wk := by
  simp only [Bool.and_eq_true, beq_iff_eq, decide_eq_true_eq] at hr
  obtain ⟨fuel, rfl⟩ : ∃ f, fuel = f + 1 := ⟨fuel - 1, by omega⟩
  exact rs_two hr.1 h h2
theorem rz_done {listed : Array Bool} {a : Act} {wk : World} {fuel : Nat} (hr : (Region.ready .any ops listed == []) = true) (h : Q .normal a wk) : wpAnyH P .any ops Q S fuel listed a wk :=
  rs_done (by simpa using hr) h
/-- a store into a variable, in such a region -/
theorem sz_store {w0 wk : World} {G z : Nat → Prop} {O : List As} {T : List Rd} {a : Act} {fuel : Nat} {listed : Array Bool} {i : Nat} {o : Oper} (H : St w0 G z O T wk) (k : Nat) {B : Nat} {cs : List Value} {t : TypeId} (hO : O[k]? = some (va B cs t)) (hi : ops.toList[i]? = some o) {ty : TypeId} {x y : Operand} (ho : o.op = .store ty x y) {off : Nat} (hx : a.eval x = .pointer (some ⟨B, off, none⟩)) (hw : Region.wanted o (yielded ops a.tmps) = true)
    {new : List Value} (hn : (a.eval y).cells.toList = new) (hsz : (P.info? ty).map (·.size) = some new.length) (hle : off + new.length ≤ cs.length) (h1 : ∀ u ∈ new, u.oneCell' = true)
    (hS : ∀ W, St w0 G z (O.set k (va B (putAt cs off new) t)) T W → S W)
    (h : ∀ W, St w0 G z (O.set k (va B (putAt cs off new) t)) T W → wk.heap.size ≤ W.heap.size → wpAnyH P .any ops Q S fuel (listed.setIfInBounds i true) (a.put o.dst undef) W) : rsSt P .any ops Q S fuel listed a wk i := by
  obtain ⟨W, h2, h3, h4⟩ := H.put (P := P) k hO off new hle h1
  exact ss_skip hi hw (exec_store_at ho hx hn hsz h2) (hS W h3) (h W h3 h4)
/-- a new variable, in such a region -/
theorem sz_alloc {w0 wk : World} {G z : Nat → Prop} {O : List As} {T : List Rd} {a : Act} {fuel : Nat} {listed : Array Bool} {i : Nat} {o : Oper} {cs : Array Value} {t : TypeId} {v : Value} (H : St w0 G z O T wk) (hi : ops.toList[i]? = some o) (hw : Region.wanted o (yielded ops a.tmps) = true)
    (hrun : (execOp a.eval o).run P wk = .ok (.value v) (wk.alloc (.cells cs t))) (hS : ∀ W, St w0 G z (va wk.heap.size cs.toList t :: O) T W → S W)
    (h : ∀ W, St w0 G z (va wk.heap.size cs.toList t :: O) T W → wk.heap.size < W.heap.size → wpAnyH P .any ops Q S fuel (listed.setIfInBounds i true) (a.put o.dst v) W) : rsSt P .any ops Q S fuel listed a wk i :=
  ss_val hi hw hrun (hS _ (H.alloc cs.toList t)) (h _ (H.alloc cs.toList t) (by simp))
end
end Go.Proofs.Ytkifagflnpkkaaa
