/- A region that draws its order, walked once in the order of the text; what lies below B stays. -/
import Derived.Test.YtokiedeiamlnlaaGreatProg
import Derived.Test.YtokiedeiamlnlaaGreatBase
namespace Go.Proofs.YtokiedeiamlnlaaGreat
set_option linter.unusedSimpArgs false
set_option linter.unusedVariables false
open Go.RowKit
section rg
variable {P : Program} {ops : Array Oper} {Q : Exit → Act → World → Prop} {md : Region.Mode} {B : Nat}

/-- what was there below B at wk is there still -/
def Sn (B : Nat) (wk W : World) : Prop := Below B wk W

theorem rn_begin (B : Nat) {id : Nat} {a : Act} {w : World} (hm : P.follows .mixedOrders = true)
    (h : wpAnyH P .any ops Q (Sn B w.drew) ops.size (Array.replicate ops.size false) a w.drew) : (Code.region id ops true).wp P Q a w :=
  wp_region_held hm h

theorem rn_take {i : Nat} {oi : Oper} {v : Value} {fuel : Nat} {listed : Array Bool} {a : Act} {wk : World} (hi' : ops.toList[i]? = some oi)
    (hs : Region.noSelect ops = true) (hf : Region.free md ops listed i = true) (hr : (Region.ready md ops listed).contains i = true)
    (hQ : ∀ c a w, Q (.panic c) (a.put oi.dst v) w → Q (.panic c) a w) (hw : Region.wanted oi (yielded ops a.tmps) = true)
    (hy : ∀ W, Sn B wk W → (execOp a.eval oi).run P W = .ok (.value v) W)
    (h : wpAnyH P md ops Q (Sn B wk) fuel (listed.setIfInBounds i true) (a.put oi.dst v) wk) : wpAnyH P md ops Q (Sn B wk) (fuel + 1) listed a wk :=
  wpAnyH_take (Array.getElem?_toList.symm.trans hi') hs hf hr hQ (.inl ⟨hw, hy⟩) (Below.refl _ wk) h

theorem rn_skip {i : Nat} {oi : Oper} {fuel : Nat} {listed : Array Bool} {a : Act} {wk : World} (hi' : ops.toList[i]? = some oi)
    (hs : Region.noSelect ops = true) (hf : Region.free md ops listed i = true) (hr : (Region.ready md ops listed).contains i = true)
    (hQ : ∀ c a w, Q (.panic c) (a.put oi.dst undef) w → Q (.panic c) a w) (hw : Region.wanted oi (yielded ops a.tmps) = false)
    (h : wpAnyH P md ops Q (Sn B wk) fuel (listed.setIfInBounds i true) (a.put oi.dst undef) wk) : wpAnyH P md ops Q (Sn B wk) (fuel + 1) listed a wk :=
  wpAnyH_take (Array.getElem?_toList.symm.trans hi') hs hf hr hQ (.inr ⟨hw, rfl⟩) (Below.refl _ wk) h

theorem rn_call {i : Nat} {o : Oper} {f : FuncId} {args : Array Value} {fuel : Nat} {listed : Array Bool} {a : Act} {wk : World}
    (hr : Region.ready md ops listed = [i]) (hi' : ops.toList[i]? = some o) (hw : Region.wanted o (yielded ops a.tmps) = true)
    (hrun : (execOp a.eval o).run P wk = .ok (.enter f args) wk)
    (hc : Calls P f args wk fun e w' => ∃ v, e = .returned v ∧ Below B wk w' ∧ wpAnyH P md ops Q (Sn B w') fuel (listed.setIfInBounds i true) (a.put o.dst v) w') :
    wpAnyH P md ops Q (Sn B wk) (fuel + 1) listed a wk := by
  have hi : ops[i]? = some o := Array.getElem?_toList.symm.trans hi'
  refine wpAnyH_all hr (by simp) fun j hj => ?_
  obtain rfl : j = i := by simpa using hj
  unfold wpOp
  simp only [hi, hw, if_true]
  refine .inl ?_
  unfold Oper.wp
  rw [hrun, Oper.upon_enter]
  refine Calls.mono hc ?_
  rintro e w' ⟨v, rfl, hb, hk⟩
  exact ⟨hb, wpAnyH_mono (fun W hW => Below.trans hb hW) _ _ _ _ hk⟩

theorem rn_make {i : Nat} {o : Oper} {v : Value} {w' : World} {fuel : Nat} {listed : Array Bool} {a : Act} {wk : World}
    (hr : Region.ready md ops listed = [i]) (hi' : ops.toList[i]? = some o) (hw : Region.wanted o (yielded ops a.tmps) = true)
    (hrun : (execOp a.eval o).run P wk = .ok (.value v) w') (hb : Below B wk w')
    (hk : wpAnyH P md ops Q (Sn B w') fuel (listed.setIfInBounds i true) (a.put o.dst v) w') :
    wpAnyH P md ops Q (Sn B wk) (fuel + 1) listed a wk := by
  have hi : ops[i]? = some o := Array.getElem?_toList.symm.trans hi'
  refine wpAnyH_all hr (by simp) fun j hj => ?_
  obtain rfl : j = i := by simpa using hj
  unfold wpOp
  simp only [hi, hw, if_true]
  refine .inl ?_
  unfold Oper.wp
  rw [hrun, Oper.upon_value]
  exact ⟨hb, wpAnyH_mono (fun W hW => Below.trans hb hW) _ _ _ _ hk⟩

/-- An append that alone may come up. -/
theorem rn_append {i : Nat} {o : Oper} {fuel : Nat} {listed : Array Bool} {a : Act} {wk : World}
    (hr : Region.ready md ops listed = [i]) (hi' : ops.toList[i]? = some o) (hw : Region.wanted o (yielded ops a.tmps) = true) (s x : Operand) (t : TypeId)
    (ho : o.op = .call { callee := .builtin .append, args := #[s, x], argTypes := #[t, t] })
    {e : TypeId} {size bytes : Nat} {z : Value} (hE : ElemOf P t e size bytes z)
    {v : Value} {n : Nat} {xs : List Value} (hs : a.eval s = v) (hown : wk.ownsRow B e size v n xs)
    {src : Value} {m : Nat} {news : List Value} (hx : a.eval x = src) (hsrc : SrcOf wk size src m news)
    (hbytes : (n + m) * bytes ≤ 140737488355328) (hbase : B ≤ wk.heap.size)
    (hk : ∀ v' w', w'.ownsRow B e size v' (n + m) (xs ++ news) → wk.grownBy w' v.ownBlock → Below B wk w' → wpAnyH P md ops Q (Sn B w') fuel (listed.setIfInBounds i true) (a.put o.dst v') w') :
    wpAnyH P md ops Q (Sn B wk) (fuel + 1) listed a wk := by
  have hi : ops[i]? = some o := Array.getElem?_toList.symm.trans hi'
  refine wpAnyH_all hr (by simp) fun j hj => ?_
  obtain rfl : j = i := by simpa using hj
  unfold wpOp
  simp only [hi, hw, if_true]
  refine .inl ?_
  refine wp_append_from s x t ho B hE hs hown hx hsrc hbytes hbase fun v' w' h1 h2 h3 => ?_
  exact ⟨h3, wpAnyH_mono (fun W hW => Below.trans h3 hW) _ _ _ _ (hk v' w' h1 h2 h3)⟩

/-- one operation of those that may come up -/
def rnSt (P : Program) (md : Region.Mode) (ops : Array Oper) (Q : Exit → Act → World → Prop) (B : Nat) (fuel : Nat) (listed : Array Bool) (a : Act) (wk : World) (i : Nat) : Prop :=
  wpOp P ops Q i (fun a' w' => Sn B wk w' ∧ wpAnyH P md ops Q (Sn B wk) fuel (listed.setIfInBounds i true) a' w') a wk

theorem rn_one {i : Nat} {fuel : Nat} {listed : Array Bool} {a : Act} {wk : World} (hr : Region.ready md ops listed = [i]) (h : rnSt P md ops Q B fuel listed a wk i) :
    wpAnyH P md ops Q (Sn B wk) (fuel + 1) listed a wk := by
  refine wpAnyH_all hr (by simp) fun j hj => ?_
  obtain rfl : j = i := by simpa using hj
  exact h

theorem rn_two {i j : Nat} {fuel : Nat} {listed : Array Bool} {a : Act} {wk : World} (hr : Region.ready md ops listed = [i, j]) (h : rnSt P md ops Q B fuel listed a wk i) (h2 : rnSt P md ops Q B fuel listed a wk j) :
    wpAnyH P md ops Q (Sn B wk) (fuel + 1) listed a wk := by
  refine wpAnyH_all hr (by simp) fun k hk => ?_
  rcases (by simpa using hk : k = i ∨ k = j) with rfl | rfl
  · exact h
  · exact h2

theorem st_call {i : Nat} {o : Oper} {f : FuncId} {args : Array Value} {fuel : Nat} {listed : Array Bool} {a : Act} {wk : World}
    (hi' : ops.toList[i]? = some o) (hw : Region.wanted o (yielded ops a.tmps) = true)
    (hrun : (execOp a.eval o).run P wk = .ok (.enter f args) wk)
    (hc : Calls P f args wk fun e w' => ∃ v, e = .returned v ∧ Below B wk w' ∧ wpAnyH P md ops Q (Sn B w') fuel (listed.setIfInBounds i true) (a.put o.dst v) w') :
    rnSt P md ops Q B fuel listed a wk i := by
  have hi : ops[i]? = some o := Array.getElem?_toList.symm.trans hi'
  unfold rnSt wpOp
  simp only [hi, hw, if_true]
  refine .inl ?_
  unfold Oper.wp
  rw [hrun, Oper.upon_enter]
  refine Calls.mono hc ?_
  rintro e w' ⟨v, rfl, hb, hk⟩
  exact ⟨hb, wpAnyH_mono (fun W hW => Below.trans hb hW) _ _ _ _ hk⟩

theorem st_make {i : Nat} {o : Oper} {v : Value} {w' : World} {fuel : Nat} {listed : Array Bool} {a : Act} {wk : World}
    (hi' : ops.toList[i]? = some o) (hw : Region.wanted o (yielded ops a.tmps) = true)
    (hrun : (execOp a.eval o).run P wk = .ok (.value v) w') (hb : Below B wk w')
    (hk : wpAnyH P md ops Q (Sn B w') fuel (listed.setIfInBounds i true) (a.put o.dst v) w') :
    rnSt P md ops Q B fuel listed a wk i := by
  have hi : ops[i]? = some o := Array.getElem?_toList.symm.trans hi'
  unfold rnSt wpOp
  simp only [hi, hw, if_true]
  refine .inl ?_
  unfold Oper.wp
  rw [hrun, Oper.upon_value]
  exact ⟨hb, wpAnyH_mono (fun W hW => Below.trans hb hW) _ _ _ _ hk⟩

theorem st_skip {i : Nat} {o : Oper} {w' : World} {fuel : Nat} {listed : Array Bool} {a : Act} {wk : World}
    (hi' : ops.toList[i]? = some o) (hw : Region.wanted o (yielded ops a.tmps) = true)
    (hrun : (execOp a.eval o).run P wk = .ok .skip w') (hb : Below B wk w')
    (hk : wpAnyH P md ops Q (Sn B w') fuel (listed.setIfInBounds i true) (a.put o.dst undef) w') :
    rnSt P md ops Q B fuel listed a wk i := by
  have hi : ops[i]? = some o := Array.getElem?_toList.symm.trans hi'
  unfold rnSt wpOp
  simp only [hi, hw, if_true]
  refine .inl ?_
  unfold Oper.wp
  rw [hrun, Oper.upon_skip]
  exact ⟨hb, wpAnyH_mono (fun W hW => Below.trans hb hW) _ _ _ _ hk⟩

theorem st_made {i : Nat} {o : Oper} {v : Value} {x : Obj} {fuel : Nat} {listed : Array Bool} {a : Act} {wk : World}
    (hi' : ops.toList[i]? = some o) (hw : Region.wanted o (yielded ops a.tmps) = true)
    (hrun : (execOp a.eval o).run P wk = .ok (.value v) (wk.alloc x)) (hB : B ≤ wk.heap.size)
    (hk : ∀ v' W, v' = v → W = wk.alloc x → Below B wk W → wpAnyH P md ops Q (Sn B W) fuel (listed.setIfInBounds i true) (a.put o.dst v') W) :
    rnSt P md ops Q B fuel listed a wk i :=
  st_make hi' hw hrun ((Below.refl _ _).alloc hB _) (hk _ _ rfl rfl ((Below.refl _ _).alloc hB _))

theorem rn_done {listed : Array Bool} {a : Act} {wk : World} {fuel : Nat} (hr : Region.ready md ops listed = []) (h : Q .normal a wk) : wpAnyH P md ops Q (Sn B wk) fuel listed a wk :=
  wpAnyH_done hr h fuel

/- the same, with whatever holds throughout -/
variable {S : World → Prop}
theorem rs_begin (S : World → Prop) {id : Nat} {a : Act} {w : World} (hm : P.follows .mixedOrders = true)
    (h : wpAnyH P .any ops Q S ops.size (Array.replicate ops.size false) a w.drew) : (Code.region id ops true).wp P Q a w :=
  wp_region_held hm h
theorem rs_take {i : Nat} {oi : Oper} {v : Value} {fuel : Nat} {listed : Array Bool} {a : Act} {wk : World} (hi' : ops.toList[i]? = some oi)
    (hs : Region.noSelect ops = true) (hf : Region.free md ops listed i = true) (hr : (Region.ready md ops listed).contains i = true)
    (hQ : ∀ c a w, Q (.panic c) (a.put oi.dst v) w → Q (.panic c) a w) (hw : Region.wanted oi (yielded ops a.tmps) = true)
    (hS : S wk) (hy : ∀ W, S W → (execOp a.eval oi).run P W = .ok (.value v) W)
    (h : wpAnyH P md ops Q S fuel (listed.setIfInBounds i true) (a.put oi.dst v) wk) : wpAnyH P md ops Q S (fuel + 1) listed a wk :=
  wpAnyH_take (Array.getElem?_toList.symm.trans hi') hs hf hr hQ (.inl ⟨hw, hy⟩) hS h
theorem rs_store {i : Nat} {o : Oper} {w' : World} {fuel : Nat} {listed : Array Bool} {a : Act} {wk : World} (hr : Region.ready md ops listed = [i])
    (hi' : ops.toList[i]? = some o) (hw : Region.wanted o (yielded ops a.tmps) = true)
    (hrun : (execOp a.eval o).run P wk = .ok .skip w') (hb : S w')
    (hk : wpAnyH P md ops Q S fuel (listed.setIfInBounds i true) (a.put o.dst undef) w') :
    wpAnyH P md ops Q S (fuel + 1) listed a wk := by
  have hi : ops[i]? = some o := Array.getElem?_toList.symm.trans hi'
  refine wpAnyH_all hr (by simp) fun j hj => ?_
  obtain rfl : j = i := by simpa using hj
  unfold wpOp
  simp only [hi, hw, if_true]
  refine .inl ?_
  unfold Oper.wp
  rw [hrun, Oper.upon_skip]
  exact ⟨hb, hk⟩
theorem rs_make {i : Nat} {o : Oper} {v : Value} {w' : World} {fuel : Nat} {listed : Array Bool} {a : Act} {wk : World} (hr : Region.ready md ops listed = [i])
    (hi' : ops.toList[i]? = some o) (hw : Region.wanted o (yielded ops a.tmps) = true)
    (hrun : (execOp a.eval o).run P wk = .ok (.value v) w') (hb : S w')
    (hk : wpAnyH P md ops Q S fuel (listed.setIfInBounds i true) (a.put o.dst v) w') :
    wpAnyH P md ops Q S (fuel + 1) listed a wk := by
  have hi : ops[i]? = some o := Array.getElem?_toList.symm.trans hi'
  refine wpAnyH_all hr (by simp) fun j hj => ?_
  obtain rfl : j = i := by simpa using hj
  unfold wpOp
  simp only [hi, hw, if_true]
  refine .inl ?_
  unfold Oper.wp
  rw [hrun, Oper.upon_value]
  exact ⟨hb, hk⟩
def rsSt (P : Program) (md : Region.Mode) (ops : Array Oper) (Q : Exit → Act → World → Prop) (S : World → Prop) (fuel : Nat) (listed : Array Bool) (a : Act) (wk : World) (i : Nat) : Prop :=
  wpOp P ops Q i (fun a' w' => S w' ∧ wpAnyH P md ops Q S fuel (listed.setIfInBounds i true) a' w') a wk
theorem rs_one {i : Nat} {fuel : Nat} {listed : Array Bool} {a : Act} {wk : World} (hr : Region.ready md ops listed = [i]) (h : rsSt P md ops Q S fuel listed a wk i) :
    wpAnyH P md ops Q S (fuel + 1) listed a wk := by
  refine wpAnyH_all hr (by simp) fun j hj => ?_
  obtain rfl : j = i := by simpa using hj
  exact h
theorem rs_two {i j : Nat} {fuel : Nat} {listed : Array Bool} {a : Act} {wk : World} (hr : Region.ready md ops listed = [i, j]) (h : rsSt P md ops Q S fuel listed a wk i) (h2 : rsSt P md ops Q S fuel listed a wk j) :
    wpAnyH P md ops Q S (fuel + 1) listed a wk := by
  refine wpAnyH_all hr (by simp) fun k hk => ?_
  rcases (by simpa using hk : k = i ∨ k = j) with rfl | rfl
  · exact h
  · exact h2
theorem ss_val {i : Nat} {o : Oper} {v : Value} {w' : World} {fuel : Nat} {listed : Array Bool} {a : Act} {wk : World}
    (hi' : ops.toList[i]? = some o) (hw : Region.wanted o (yielded ops a.tmps) = true)
    (hrun : (execOp a.eval o).run P wk = .ok (.value v) w') (hb : S w')
    (hk : wpAnyH P md ops Q S fuel (listed.setIfInBounds i true) (a.put o.dst v) w') : rsSt P md ops Q S fuel listed a wk i := by
  have hi : ops[i]? = some o := Array.getElem?_toList.symm.trans hi'
  unfold rsSt wpOp
  simp only [hi, hw, if_true]
  refine .inl ?_
  unfold Oper.wp
  rw [hrun, Oper.upon_value]
  exact ⟨hb, hk⟩
theorem ss_skip {i : Nat} {o : Oper} {w' : World} {fuel : Nat} {listed : Array Bool} {a : Act} {wk : World}
    (hi' : ops.toList[i]? = some o) (hw : Region.wanted o (yielded ops a.tmps) = true)
    (hrun : (execOp a.eval o).run P wk = .ok .skip w') (hb : S w')
    (hk : wpAnyH P md ops Q S fuel (listed.setIfInBounds i true) (a.put o.dst undef) w') : rsSt P md ops Q S fuel listed a wk i := by
  have hi : ops[i]? = some o := Array.getElem?_toList.symm.trans hi'
  unfold rsSt wpOp
  simp only [hi, hw, if_true]
  refine .inl ?_
  unfold Oper.wp
  rw [hrun, Oper.upon_skip]
  exact ⟨hb, hk⟩
theorem ss_call {i : Nat} {o : Oper} {f : FuncId} {args : Array Value} {fuel : Nat} {listed : Array Bool} {a : Act} {wk : World}
    (hi' : ops.toList[i]? = some o) (hw : Region.wanted o (yielded ops a.tmps) = true)
    (hrun : (execOp a.eval o).run P wk = .ok (.enter f args) wk)
    (hc : Calls P f args wk fun e w' => ∃ v, e = .returned v ∧ S w' ∧ wpAnyH P md ops Q S fuel (listed.setIfInBounds i true) (a.put o.dst v) w') : rsSt P md ops Q S fuel listed a wk i := by
  have hi : ops[i]? = some o := Array.getElem?_toList.symm.trans hi'
  unfold rsSt wpOp
  simp only [hi, hw, if_true]
  refine .inl ?_
  unfold Oper.wp
  rw [hrun, Oper.upon_enter]
  refine Calls.mono hc ?_
  rintro e w' ⟨v, rfl, hb, hk⟩
  exact ⟨hb, hk⟩
theorem rs_done {listed : Array Bool} {a : Act} {wk : World} {fuel : Nat} (hr : Region.ready md ops listed = []) (h : Q .normal a wk) : wpAnyH P md ops Q S fuel listed a wk :=
  wpAnyH_done hr h fuel
end rg
end Go.Proofs.YtokiedeiamlnlaaGreat
