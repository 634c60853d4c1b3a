/- MpE: texts of this claim, one behind the other: Frame Opn EvH EvU. No condition. -/
import Derived.Test.YtomblhnchdokmaaGreatDoorRows
import Derived.Test.YtomblhnchdokmaaGreatDoorMp1
import Derived.ProofKit
import Derived.OpenShut
import Derived.ShutString
import Derived.ChangeOld
import Derived.HandedShaped
import Derived.Shelf.Vars
import Derived.Lay
import Derived.LaidOnce
import Derived.SevenTiedAt
import Derived.Test.YtomblhnchdokmaaGreatDoorMp5
namespace Go.Proofs.YtomblhnchdokmaaGreatDoor
set_option linter.unusedSimpArgs false
set_option linter.unusedVariables false
open Go.RowKit Go.ChangeShapes Go.WideShapes Go.ChangeAt

theorem returns_shaped_and {H : Type} {enc : TypeId × Value → H} {a : Assume} {C : Checked} {os : Os} {f : FuncId} {fn : Func} {s : ChangeSpec} {conds : List PathCond} {apart fresh handsOn again : Bool} {X : World → Array Value → Prop}
    (hX : ∀ (w w' : World) (args : Array Value), w.heap = w'.heap → X w args → X w' args)
    (own : ownKnob C.prog.godebug = none) (started : os.Started) (noInit : C.prog.inits.idxOf? f = none) (hfn : C.prog.funcs[f]? = some fn)
    (witness : ∃ (w : World) (tape : Tape) (i : Input), w.os = os ∧ (w.forCall tape i).Shaped C.prog ∧ i.vars = [] ∧ Input.okWide C.prog (w.forCall tape i) .any w.heap.size f i ∧
      ((s.pre enc C.prog fn conds apart (w.forCall tape i).memory i.args ∧ X (w.forCall tape i).memory i.args) ∧ sizedMet enc C.prog fn (OpenSpec.ofChange s) apart (w.forCall tape i).memory i.args) ∧ a.holds C.prog (lone (Frame.enter C.prog f i.args .normal) [] (w.forCall tape i)))
    (contract : ∀ (W : World) (base : Nat) (args : Array Value) (ds gs : List (DataW H)) (before : List MemPlace),
      (∀ (j : Nat) t v, fn.params[j]? = some t → args[j]? = some v → Value.okWide C.prog W .any base t v) →
      DataW.Whole enc C.prog fn.params.toList s.vars apart W args.toList ds gs before →
      (DataW.weightsEach C.prog (fn.params.toList ++ s.plain.varTypes C.prog) (ds ++ gs)).all (· ≤ reachBytes) = true → X W args →
      W.ShapedOpen C.prog →
      Calls C.prog f args W fun e W' => ∃ v, e = .returned v ∧ s.post enc C.prog fn apart fresh handsOn again W args v W') :
    ReturnsInHanded a C os f .any (fun w args => (s.pre enc C.prog fn conds apart w args ∧ X w args) ∧ sizedMet enc C.prog fn (OpenSpec.ofChange s) apart w args) (s.post enc C.prog fn apart fresh handsOn again) := by
  refine returnsInHanded_of_calls own started noInit witness ?_
  intro w tape i _ hsh _ hok hpre hholds
  obtain ⟨_, _, _, fn', hfn', _, _, _, _, hval⟩ := hok
  have e : fn' = fn := Option.some.inj (hfn'.symm.trans hfn)
  subst e
  obtain ⟨⟨⟨ds, gs, before, hw, hc⟩, hx⟩, hz⟩ := hpre
  have hw' := DataW.Whole.of_heap (w' := w.forCall tape i) (by rfl) hw
  refine (contract (w.forCall tape i) w.heap.size i.args ds gs before hval hw' (hz.weights hw) (hX _ _ _ (by rfl) hx) hsh).mono fun e W' ⟨v, he, hp⟩ => ?_
  subst he
  exact ChangeSpec.post_blind hp

/-- The bytes that numbers are. -/
def bytesOf (zs : List Int) : List UInt8 := zs.map fun n => UInt8.ofNat n.toNat

theorem isBytes_of_ints {W : World} {x : Addr} {len cap : Nat} {zs : List Int} (hl : len ≤ cap) (hm : cap ≤ maxLen) (hz : zs.length = cap)
    (hcell : ∀ i, i < zs.length → W.cell? (x.add i) = some (.int .u8 (zs.getD i 0))) (hwz : ∀ n ∈ zs, (Lit.int .u8 n).wf = true) : IsBytes W (.slice (some x) len cap) (bytesOf (zs.take len)) := by
  have hlen : (bytesOf (zs.take len)).length = len := by simp [bytesOf]; omega
  refine .inr ⟨x, cap, by rw [hlen], by omega, hm, fun i hi => ?_⟩
  rw [hlen] at hi
  have hi' : i < zs.length := by omega
  rw [hcell i hi']
  have hn := hwz (zs[i]'hi') (List.getElem_mem _)
  have hb : 0 ≤ zs[i]'hi' ∧ zs[i]'hi' ≤ 255 := by simpa [Lit.wf, IntKind.min, IntKind.max, IntKind.signed, IntKind.bits] using hn
  simp [bytesOf, hi, hi']
  omega

theorem okWide_arr {P : Program} {w : World} {r : Reach} {base : Nat} {t : TypeId} {v : Value} {n : Nat} {e : TypeId} (ht : P.underlying t = some (.array n e)) (h : Value.okWide P w r base t v) : ∃ cs, v = .agg cs ∧ cs.size = P.cellsOf t := by
  simp only [Value.okWide, ht] at h
  obtain ⟨cs, h1, h2, _⟩ := h
  exact ⟨cs, h1, h2⟩

theorem byte_of_wf {n : Int} (h : (Lit.int .u8 n).wf = true) : ∃ b : UInt8, n = (b.toNat : Int) := by
  have hb : 0 ≤ n ∧ n ≤ 255 := by simpa [Lit.wf, IntKind.min, IntKind.max, IntKind.signed, IntKind.bits] using h
  refine ⟨UInt8.ofNat n.toNat, ?_⟩
  rw [UInt8.toNat_ofNat']
  omega

/-- An address that came in, by value. -/
theorem open_mac {H : Type} {enc : TypeId × Value → H} {P : Program} {w : World} {base b0 : Nat} {spare : Nat → Bool} {held : Bool} {r : Reach} {t e : TypeId} {v : Value} {d : DataW H} {p : List MemPlace}
    (ht : P.underlying t = some (.array 6 e)) (he : P.underlying e = some (.int .u8)) (hC : P.cellsOf t = 6) (hc : P.cellsOf e = 1)
    (hv : Value.okWide P w r b0 t v) (h : DataW.Trod enc P w base spare held t v d p) : ∃ a b c d' e' f : UInt8, v = .agg #[bv a, bv b, bv c, bv d', bv e', bv f] := by
  obtain ⟨cs, rfl, hsz⟩ := okWide_arr ht hv
  obtain ⟨fuel, hf⟩ := h
  obtain ⟨xs, m, _, _, _, hl, hall⟩ := DataW.trod_array ht hf
  rw [hC] at hsz
  have hcs : (Value.agg cs).cells.toList = cs.toList := rfl
  rw [hcs, hc] at hall
  obtain ⟨l⟩ := cs
  match l, hsz with
  | [v0, v1, v2, v3, v4, v5], _ =>
    have one : ∀ (i : Nat) (u : Value), i < 6 → ([v0, v1, v2, v3, v4, v5].drop (i * 1)).take 1 = [u] → ∃ b : UInt8, u = bv b := by
      intro i u hi hu
      have := hall i hi
      simp only at this
      rw [hu, List.getElem?_eq_getElem (by omega)] at this
      obtain ⟨n, h1, _, hw⟩ := DataW.trod_int he this
      obtain ⟨b, rfl⟩ := byte_of_wf hw
      simp at h1
      exact ⟨b, h1⟩
    obtain ⟨a, rfl⟩ := one 0 v0 (by omega) rfl
    obtain ⟨b, rfl⟩ := one 1 v1 (by omega) rfl
    obtain ⟨c, rfl⟩ := one 2 v2 (by omega) rfl
    obtain ⟨d', rfl⟩ := one 3 v3 (by omega) rfl
    obtain ⟨e', rfl⟩ := one 4 v4 (by omega) rfl
    obtain ⟨f, rfl⟩ := one 5 v5 (by omega) rfl
    exact ⟨a, b, c, d', e', f, rfl⟩
theorem u64_of_wf {n : Int} (h : (Lit.int .u64 n).wf = true) : ∃ k : Nat, n = (k : Int) ∧ k < 18446744073709551616 := by
  have hb : 0 ≤ n ∧ n ≤ 18446744073709551615 := by simpa [Lit.wf, IntKind.min, IntKind.max, IntKind.signed, IntKind.bits] using h
  exact ⟨n.toNat, by omega, by omega⟩
end Go.Proofs.YtomblhnchdokmaaGreatDoor

namespace Go.Proofs.YtomblhnchdokmaaGreatDoor
set_option linter.unusedSimpArgs false
set_option linter.unusedVariables false
open Go.RowKit Go.ChangeShapes Go.WideShapes Go.ChangeAt
set_option maxRecDepth 10000

/-- v is a slice of l; each element's n cells are told by R -/
def Sl {α : Type} (n : Nat) (R : World → List Value → α → Prop) (w : World) (v : Value) (l : List α) : Prop :=
  ∃ a cap, v = .slice a l.length cap ∧ l.length ≤ cap ∧ cap ≤ maxLen ∧ (a = none → cap = 0) ∧ (l ≠ [] → ∃ b o, a = some ⟨b, o, none⟩ ∧ ∀ i x, l[i]? = some x → ∃ cs, rng w b (o + i * n) n = some cs ∧ R w cs x)

/-- whatever can be read as a value of type t has cells that R tells -/
def Opens {α : Type} (P : Program) (t : TypeId) (R : World → List Value → α → Prop) : Prop :=
  ∀ (H : Type) (enc : TypeId × Value → H) (w : World) (base : Nat) (spare : Nat → Bool) (held : Bool) (fuel : Nat) (cs : List Value) (x : DataW H × List MemPlace),
    DataW.trod enc P w base spare held fuel t cs = some x → ∃ a, R w cs a

theorem Opens.map {α β : Type} {P : Program} {t : TypeId} {R : World → List Value → α → Prop} {R' : World → List Value → β → Prop} (h : Opens P t R) (hm : ∀ w cs a, R w cs a → ∃ b, R' w cs b) : Opens P t R' :=
  fun H enc w base spare held fuel cs x hx => by obtain ⟨a, ha⟩ := h H enc w base spare held fuel cs x hx; exact hm w cs a ha
theorem opens_int {P : Program} {t : TypeId} {k : IntKind} (ht : P.underlying t = some (.int k)) : Opens P t (fun _ cs (n : Int) => cs = [.int k n] ∧ (Lit.int k n).wf = true) :=
  fun _ _ _ _ _ _ _ _ _ h => by obtain ⟨n, h1, _, h2⟩ := DataW.trod_int ht h; exact ⟨n, h1, h2⟩
theorem opens_bool {P : Program} {t : TypeId} (ht : P.underlying t = some .bool) : Opens P t (fun _ cs (b : Bool) => cs = [.bool b]) :=
  fun _ _ _ _ _ _ _ _ _ h => by obtain ⟨b, h1, _⟩ := DataW.trod_bool ht h; exact ⟨b, h1⟩
theorem opens_string {P : Program} {t : TypeId} (ht : P.underlying t = some .string) : Opens P t (fun _ cs (s : ByteArray) => cs = [.string s] ∧ s.size ≤ maxLen) :=
  fun _ _ _ _ _ _ _ _ _ h => by obtain ⟨s, h1, _, h2⟩ := DataW.trod_string ht h; exact ⟨s, h1, h2⟩
theorem opens_byte {P : Program} {t : TypeId} (ht : P.underlying t = some (.int .u8)) : Opens P t (fun _ cs (b : UInt8) => cs = [bv b]) :=
  (opens_int ht).map fun _ _ n ⟨h1, h2⟩ => by obtain ⟨b, rfl⟩ := byte_of_wf h2; exact ⟨b, h1⟩
theorem list_of_each {α : Type} {Q : Nat → α → Prop} : ∀ (k : Nat), (∀ i, i < k → ∃ y, Q i y) → ∃ l : List α, l.length = k ∧ ∀ i y, l[i]? = some y → Q i y
  | 0, _ => ⟨[], rfl, fun i y h => by simp at h⟩
  | k + 1, h => by
    obtain ⟨l, h1, h2⟩ := list_of_each k (fun i hi => h i (by omega))
    obtain ⟨y, hy⟩ := h k (by omega)
    refine ⟨l ++ [y], by simp [h1], fun i z hz => ?_⟩
    by_cases hi : i < l.length
    · rw [List.getElem?_append_left hi] at hz; exact h2 i z hz
    · have hil := (List.getElem?_eq_some_iff.1 hz).1
      simp only [List.length_append, List.length_cons, List.length_nil] at hil
      obtain rfl : i = k := by omega
      rw [List.getElem?_append_right (by omega), h1] at hz
      simp only [Nat.sub_self, List.getElem?_cons_zero, Option.some.injEq] at hz
      exact hz ▸ hy
theorem addr_add_eq {b o k : Nat} : (⟨b, o, none⟩ : Addr).add k = ⟨b, o + k, none⟩ := by unfold Addr.add; split <;> simp_all
theorem opens_slice {α : Type} {P : Program} {t e n : Nat} {R : World → List Value → α → Prop} (ht : P.underlying t = some (.slice e)) (hn : P.cellsOf e = n) (hpos : 0 < n) (he : Opens P e R) :
    Opens P t (fun w cs (l : List α) => ∃ v, cs = [v] ∧ Sl n R w v l) := fun H enc w base spare held fuel cs x h => by
  rcases DataW.trod_slice ht h with ⟨rfl, _⟩ | ⟨a, len, cap, elems, rest, m, _, rfl, _, _, hl, hm, hlen, hel, _, _⟩
  · exact ⟨[], _, rfl, none, 0, rfl, Nat.le_refl _, Nat.zero_le _, fun _ => rfl, fun h => absurd rfl h⟩
  · have hex : ∀ i, i < len → ∃ y cs', w.cells? base (a.add (i * n)) n = some cs' ∧ R w cs' y := fun i hi => by
      have := hel i hi
      rw [hn, List.getElem?_eq_getElem (by omega)] at this
      obtain ⟨cs', h1, h2⟩ := Option.bind_eq_some_iff.1 this
      obtain ⟨y, hy⟩ := he H enc w base spare held m cs' _ h2
      exact ⟨y, cs', h1, hy⟩
    obtain ⟨l, hll, hl2⟩ := list_of_each (Q := fun i y => ∃ cs', w.cells? base (a.add (i * n)) n = some cs' ∧ R w cs' y) len hex
    refine ⟨l, _, rfl, some a, cap, by rw [hll], by omega, hm, (fun h => by cases h), fun hne => ?_⟩
    have hlp : 0 < l.length := List.length_pos_iff.2 hne
    have cel : ∀ i (cs' : List Value), w.cells? base (a.add (i * n)) n = some cs' → cs'.length = n ∧ ∀ j, j < n → w.cell? ((a.add (i * n)).add j) = cs'[j]? := fun i cs' h => by
      have := World.cells?_some h
      exact ⟨this.2.1, this.2.2⟩
    obtain ⟨cs0, h0, _⟩ := hl2 0 _ (List.getElem?_eq_getElem hlp)
    obtain ⟨k1, k2⟩ := cel 0 cs0 h0
    have hz := k2 0 hpos
    rw [Nat.zero_mul, List.getElem?_eq_getElem (by omega)] at hz
    have hs : a.spot = none := by
      have e0 : (a.add 0).add 0 = a := rfl
      rw [e0] at hz
      unfold World.cell? at hz
      split at hz
      · split at hz
        · cases hz
        · rename_i hh; simpa using hh
      · cases hz
    obtain ⟨b, o, sp⟩ := a
    obtain rfl : sp = none := hs
    refine ⟨b, o, rfl, fun i y hy => ?_⟩
    obtain ⟨cs', g1, g2⟩ := hl2 i y hy
    obtain ⟨k3, k4⟩ := cel i cs' g1
    refine ⟨cs', ?_, g2⟩
    have : w.rangeAt b (o + i * n) cs' := fun j v hv => by
      have hj : j < n := by have := (List.getElem?_eq_some_iff.1 hv).1; omega
      have := k4 j hj
      rw [addr_add_eq, addr_add_eq] at this
      rw [this, hv]
    have hr := rng_of this (by rintro rfl; simp at k3; omega)
    rwa [k3] at hr

/-- the fields of a struct, one by one -/
def OpensF {α : Type} (P : Program) (fs : List Field) (off : Nat) (R : World → List Value → α → Prop) : Prop :=
  ∀ (H : Type) (enc : TypeId × Value → H) (w : World) (base : Nat) (spare : Nat → Bool) (held : Bool) (fuel : Nat) (cs : List Value),
    (∀ (i : Nat) (f : Field), fs[i]? = some f → ∃ x, DataW.trod enc P w base spare held fuel f.type ((cs.drop (f.offset - off)).take (P.cellsOf f.type)) = some x) → (fs = [] → cs = []) → ∃ a, R w cs a
theorem opensF_nil {P : Program} {off : Nat} : OpensF P [] off (fun _ cs (_ : Unit) => cs = []) := fun _ _ _ _ _ _ _ _ _ h => ⟨(), h rfl⟩
theorem opensF_cons {α β : Type} {P : Program} {f : Field} {fs : List Field} {off n : Nat} {R : World → List Value → α → Prop} {R' : World → List Value → β → Prop} (ho : f.offset = off) (hn : P.cellsOf f.type = n) (hr : ∀ g ∈ fs, off + n ≤ g.offset)
    (h1 : Opens P f.type R) (h2 : OpensF P fs (off + n) R') (hlast : fs = [] → ∀ w cs a, R w cs a → True) : OpensF P (f :: fs) off (fun w cs (x : α × β) => R w (cs.take n) x.1 ∧ R' w (if fs = [] then [] else cs.drop n) x.2) := fun H enc w base spare held fuel cs h _ => by
  obtain ⟨x, hx⟩ := h 0 f rfl
  rw [ho, Nat.sub_self, List.drop_zero, hn] at hx
  obtain ⟨a, ha⟩ := h1 H enc w base spare held fuel _ _ hx
  obtain ⟨b, hb⟩ := h2 H enc w base spare held fuel (if fs = [] then [] else cs.drop n) (fun i g hg => by
    obtain ⟨y, hy⟩ := h (i + 1) g (by simpa using hg)
    have hgm := hr g (List.mem_of_getElem? hg)
    have hne : fs ≠ [] := by rintro rfl; simp at hg
    refine ⟨y, ?_⟩
    rw [if_neg hne, List.drop_drop, show n + (g.offset - (off + n)) = g.offset - off by omega]
    exact hy) (fun e => by rw [if_pos e])
  exact ⟨(a, b), ha, hb⟩
theorem opens_struct {α : Type} {P : Program} {t : TypeId} {fs : Array Field} {R : World → List Value → α → Prop} (ht : P.underlying t = some (.struct fs)) (h : OpensF P fs.toList 0 R) (hne : fs.toList ≠ []) :
    Opens P t (fun w cs a => cs.length = P.cellsOf t ∧ R w cs a) := fun H enc w base spare held fuel cs x hx => by
  obtain ⟨xs, n, _, _, hl, hlen, hf⟩ := DataW.trod_struct ht hx
  obtain ⟨a, ha⟩ := h H enc w base spare held n cs (fun (i : Nat) (f : Field) (hi : fs.toList[i]? = some f) => by
    have hi' : fs[i]? = some f := by simpa using hi
    have hlt : i < xs.length := by rw [hlen]; exact (Array.getElem?_eq_some_iff.1 hi').1
    have := hf i f hi'
    rw [List.getElem?_eq_getElem hlt] at this
    rw [Nat.sub_zero]
    exact ⟨_, this⟩) (fun e => absurd e hne)
  exact ⟨a, hl, ha⟩
theorem opens_array {α : Type} {P : Program} {t e n k : Nat} {R : World → List Value → α → Prop} (ht : P.underlying t = some (.array k e)) (hn : P.cellsOf e = n) (h : Opens P e R) :
    Opens P t (fun w cs (l : List α) => cs.length = P.cellsOf t ∧ l.length = k ∧ ∀ i a, l[i]? = some a → R w ((cs.drop (i * n)).take n) a) := fun H enc w base spare held fuel cs x hx => by
  obtain ⟨xs, m, _, _, hl, hlen, hf⟩ := DataW.trod_array ht hx
  rw [hn] at hf
  have hex : ∀ i, i < k → ∃ a, R w ((cs.drop (i * n)).take n) a := fun i hi => by
    have := hf i hi
    rw [List.getElem?_eq_getElem (by omega)] at this
    exact h H enc w base spare held m _ _ this
  obtain ⟨l, h1, h2⟩ := list_of_each k hex
  exact ⟨l, hl, h1, h2⟩

/-- an argument -/
theorem opens_arg {α : Type} {H : Type} {enc : TypeId × Value → H} {P : Program} {w : World} {base : Nat} {spare : Nat → Bool} {held : Bool} {t : TypeId} {v : Value} {d : DataW H} {p : List MemPlace} {R : World → List Value → α → Prop} (ho : Opens P t R)
    (h : DataW.Trod enc P w base spare held t v d p) : ∃ a, R w v.cells.toList a := by
  obtain ⟨fuel, hf⟩ := h
  exact ho H enc w base spare held fuel _ _ hf
theorem arg_agg {P : Program} {w : World} {r : Reach} {b0 t : Nat} {v : Value} {fs : Array Field} (ht : P.underlying t = some (.struct fs)) (h : Value.okWide P w r b0 t v) : ∃ cs : List Value, v = .agg cs.toArray := by
  simp only [Value.okWide, ht] at h
  obtain ⟨cs, h1, _⟩ := h
  exact ⟨cs.toList, by rw [h1]⟩
end Go.Proofs.YtomblhnchdokmaaGreatDoor

namespace Go.Proofs.YtomblhnchdokmaaGreatDoor
set_option linter.unusedSimpArgs false
set_option linter.unusedVariables false
open Go.RowKit Go.ChangeShapes Go.WideShapes Go.ChangeAt
set_option maxRecDepth 10000
noncomputable section

mutual
/-- data that fit their shapes -/
def wfS : Sh → D → Prop
  | .int k, d => k.min ≤ d.toI ∧ d.toI ≤ k.max
  | .bool, _ => True
  | .str, d => d.toS.size ≤ maxLen ∧ d.toS.size ≤ reachBytes
  | .sl es, d => d.len * szB es ≤ reachBytes ∧ ∀ i, i < d.len → wfE es (d.get i) 0
def wfE : List Sh → D → Nat → Prop
  | [], _, _ => True
  | s :: ss, d, j => wfS s (d.cell j) ∧ wfE ss d (j + 1)
end
/-- cells that data tell -/
def CL (Z : Nat → Nat → Option Value) : List Sh → List Value → List D → Prop
  | [], vs, ds => vs = [] ∧ ds = []
  | s :: ss, vs, ds => ∃ v vs' d ds', vs = v :: vs' ∧ ds = d :: ds' ∧ LF Z s v d ∧ wfS s d ∧ CL Z ss vs' ds'
def zc (w : World) (b o : Nat) : Option Value := w.cell? ⟨b, o, none⟩
section
variable {Z : Nat → Nat → Option Value}
theorem CL.length : ∀ {es : List Sh} {cs : List Value} {ds : List D}, CL Z es cs ds → cs.length = es.length ∧ ds.length = es.length
  | [], _, _, ⟨h1, h2⟩ => by subst h1 h2; exact ⟨rfl, rfl⟩
  | _ :: _, _, _, ⟨_, _, _, _, h1, h2, _, _, h3⟩ => by
    subst h1 h2
    obtain ⟨a, b⟩ := CL.length h3
    exact ⟨by simp [a], by simp [b]⟩
theorem CL.append : ∀ {es es' : List Sh} {cs cs' : List Value} {ds ds' : List D}, CL Z es cs ds → CL Z es' cs' ds' → CL Z (es ++ es') (cs ++ cs') (ds ++ ds')
  | [], _, _, _, _, _, ⟨h1, h2⟩, h => by subst h1 h2; exact h
  | _ :: _, _, _, _, _, _, ⟨v, vs', d, ds', h1, h2, h3, h4, h5⟩, h => by
    subst h1 h2
    exact ⟨v, _, d, _, rfl, rfl, h3, h4, CL.append h5 h⟩
theorem CL.el : ∀ {es : List Sh} {cs : List Value} {ds : List D} {d : D} {b o j : Nat}, CL Z es cs ds → (∀ i v, cs[i]? = some v → Z b (o + i) = some v) → (∀ i x, ds[i]? = some x → d.cell (j + i) = x) → EL Z es b o d j
  | [], _, _, _, _, _, _, _, _, _ => trivial
  | s :: ss, _, _, d, b, o, j, ⟨v, vs', x, ds', h1, h2, h3, _, h5⟩, hz, hd => by
    subst h1 h2
    refine ⟨⟨v, hz 0 v rfl, ?_⟩, CL.el h5 (fun i u hu => ?_) fun i y hy => ?_⟩
    · rw [show d.cell j = x from hd 0 x rfl]; exact h3
    · rw [Nat.add_assoc, Nat.add_comm 1 i]; exact hz (i + 1) u (by simpa using hu)
    · rw [Nat.add_assoc, Nat.add_comm 1 i]; exact hd (i + 1) y (by simpa using hy)
theorem CL.wf : ∀ {es : List Sh} {cs : List Value} {ds : List D} {d : D} {j : Nat}, CL Z es cs ds → (∀ i x, ds[i]? = some x → d.cell (j + i) = x) → wfE es d j
  | [], _, _, _, _, _, _ => trivial
  | s :: ss, _, _, d, j, ⟨v, vs', x, ds', h1, h2, _, h4, h5⟩, hd => by
    subst h1 h2
    refine ⟨?_, CL.wf h5 fun i y hy => ?_⟩
    · rw [show d.cell j = x from hd 0 x rfl]; exact h4
    · rw [Nat.add_assoc, Nat.add_comm 1 i]; exact hd (i + 1) y (by simpa using hy)
end
/-- whatever can be read as a value of type t is told by data of these shapes -/
def OpD (P : Program) (t : TypeId) (es : List Sh) : Prop :=
  ∀ (H : Type) (enc : TypeId × Value → H) (w : World) (base : Nat) (spare : Nat → Bool) (held : Bool) (fuel : Nat) (cs : List Value) (x : DataW H × List MemPlace),
    DataW.trod enc P w base spare held fuel t cs = some x → (x.1.weights P t).all (· ≤ reachBytes) = true → ∃ ds, CL (zc w) es cs ds
section
variable {P : Program} {t : TypeId}
theorem opD_one {w : World} {s : Sh} {v : Value} {d : D} (h : LF (zc w) s v d) (hw : wfS s d) : ∃ ds, CL (zc w) [s] [v] ds := ⟨[d], v, [], d, [], rfl, rfl, h, hw, rfl, rfl⟩
theorem opD_int {k : IntKind} (ht : P.underlying t = some (.int k)) : OpD P t [.int k] := fun H enc w base spare held fuel cs x h _ => by
  obtain ⟨n, rfl, _, h2⟩ := DataW.trod_int ht h
  have h2' : k.min ≤ n ∧ n ≤ k.max := by simpa [Lit.wf] using h2
  exact opD_one (d := .i n) rfl h2'
theorem opD_bool (ht : P.underlying t = some .bool) : OpD P t [.bool] := fun H enc w base spare held fuel cs x h _ => by
  obtain ⟨b, rfl, _⟩ := DataW.trod_bool ht h
  exact opD_one (d := .b b) rfl trivial
theorem opD_str (ht : P.underlying t = some .string) : OpD P t [.str] := fun H enc w base spare held fuel cs x h hw => by
  obtain ⟨s, rfl, rfl, h2⟩ := DataW.trod_string ht h
  refine opD_one (d := .s s) rfl ⟨h2, ?_⟩
  have : s.data.toList.length ≤ reachBytes := by simpa [DataW.weights] using hw
  rw [Array.length_toList] at this
  exact this
theorem weightsAll_mem {H : Type} {e : TypeId} : ∀ {l : List (DataW H)}, (DataW.weightsAll P e l).all (· ≤ reachBytes) = true → ∀ d ∈ l, (d.weights P e).all (· ≤ reachBytes) = true
  | [], _, _, h => by cases h
  | x :: l, h, d, hd => by
    rw [DataW.weightsAll, List.all_append, Bool.and_eq_true] at h
    rcases List.mem_cons.1 hd with rfl | hd
    · exact h.1
    · exact weightsAll_mem h.2 d hd
theorem opD_slice {e : TypeId} {es : List Sh} (ht : P.underlying t = some (.slice e)) (he : OpD P e es) (hn : P.cellsOf e = es.length) (hpos : 0 < es.length) (hb : szB es ≤ P.bytesOf e) : OpD P t [.sl es] := fun H enc w base spare held fuel cs x h hw => by
  have hrr : reachBytes ≤ room := by unfold reachBytes room; omega
  rcases DataW.trod_slice ht h with ⟨rfl, _⟩ | ⟨a, len, cap, elems, rest, m, _, rfl, rfl, _, hl, hm, hlen, hel, _, _⟩
  · have h0 : (D.l []).len = 0 := by simp [D.len, D.toL, D.raw]
    exact opD_one (d := .l []) ⟨by rw [h0, Nat.zero_mul]; exact Nat.zero_le _, none, 0, by rw [h0], by rw [h0]; exact Nat.le_refl _, Nat.zero_le _, fun _ => rfl, fun hn => absurd h0 hn⟩ ⟨by rw [h0, Nat.zero_mul]; exact Nat.zero_le _, fun i hi => by omega⟩
  · rw [DataW.weights, ht] at hw
    simp only [List.all_cons, Bool.and_eq_true, decide_eq_true_eq, List.all_append, List.length_map] at hw
    obtain ⟨hw1, hw2, _⟩ := hw
    have hex : ∀ i, i < len → ∃ ds, ∃ cs', w.cells? base (a.add (i * es.length)) es.length = some cs' ∧ CL (zc w) es cs' ds := fun i hi => by
      have := hel i hi
      rw [hn, List.getElem?_eq_getElem (by omega)] at this
      obtain ⟨cs', h1, h2⟩ := Option.bind_eq_some_iff.1 this
      obtain ⟨ds, hd⟩ := he H enc w base spare held m cs' _ h2 (weightsAll_mem hw2 _ (List.mem_map_of_mem (List.getElem_mem _)))
      exact ⟨ds, cs', h1, hd⟩
    obtain ⟨l, hll, hl2⟩ := list_of_each (Q := fun i ds => ∃ cs', w.cells? base (a.add (i * es.length)) es.length = some cs' ∧ CL (zc w) es cs' ds) len hex
    have hlm : (l.map D.t).length ≤ maxLen := by simp; omega
    have htl : (D.l (l.map .t)).toL = l.map .t := toL_l hlm
    have hdl : (D.l (l.map .t)).len = len := by unfold D.len; rw [htl]; simp [hll]
    have hget : ∀ i, i < len → ∃ ds, l[i]? = some ds ∧ (D.l (l.map .t)).get i = .t ds := fun i hi => by
      refine ⟨l[i], List.getElem?_eq_getElem (by omega), ?_⟩
      unfold D.get; rw [htl, List.getD_eq_getElem?_getD]
      simp [show i < l.length by omega]
    have hsz : len * szB es ≤ reachBytes := by
      refine Nat.le_trans (Nat.mul_le_mul_left _ hb) (Nat.le_trans (Nat.mul_le_mul_right _ ?_) hw1)
      omega
    refine opD_one (d := .l (l.map .t)) ⟨by rw [hdl]; exact Nat.le_trans hsz hrr, some a, cap, by rw [hdl], by rw [hdl]; exact hl, hm, (fun h => by cases h), fun hne => ?_⟩ ⟨by rw [hdl]; exact hsz, fun i hi => ?_⟩
    · rw [hdl] at hne ⊢
      have cel : ∀ i (cs' : List Value), w.cells? base (a.add (i * es.length)) es.length = some cs' → cs'.length = es.length ∧ ∀ j, j < es.length → w.cell? ((a.add (i * es.length)).add j) = cs'[j]? := fun i cs' h => by
        have := World.cells?_some h
        exact ⟨this.2.1, this.2.2⟩
      obtain ⟨ds0, h00, _⟩ := hget 0 (by omega)
      obtain ⟨cs0, h0, _⟩ := hl2 0 _ h00
      obtain ⟨k1, k2⟩ := cel 0 cs0 h0
      have hz := k2 0 hpos
      rw [Nat.zero_mul, List.getElem?_eq_getElem (by omega)] at hz
      have hs : a.spot = none := by
        have e0 : (a.add 0).add 0 = a := rfl
        rw [e0] at hz
        unfold World.cell? at hz
        split at hz
        · split at hz
          · cases hz
          · rename_i hh; simpa using hh
        · cases hz
      obtain ⟨b, o, sp⟩ := a
      obtain rfl : sp = none := hs
      refine ⟨b, o, rfl, fun i hi => ?_⟩
      obtain ⟨ds, h1, h2⟩ := hget i hi
      obtain ⟨cs', g1, g2⟩ := hl2 i ds h1
      obtain ⟨k3, k4⟩ := cel i cs' g1
      rw [h2]
      refine g2.el (fun j v hv => ?_) fun j y hy => ?_
      · have hj : j < es.length := by have := (List.getElem?_eq_some_iff.1 hv).1; omega
        have := k4 j hj
        rw [addr_add_eq, addr_add_eq] at this
        exact this.trans hv
      · show List.getD ds (0 + j) .n = y
        rw [Nat.zero_add, List.getD_eq_getElem?_getD, hy]; rfl
    · rw [hdl] at hi
      obtain ⟨ds, h1, h2⟩ := hget i hi
      obtain ⟨cs', g1, g2⟩ := hl2 i ds h1
      rw [h2]
      exact g2.wf fun j y hy => by
        show List.getD ds (0 + j) .n = y
        rw [Nat.zero_add, List.getD_eq_getElem?_getD, hy]; rfl
/-- the fields of a struct, one by one -/
theorem opD_fields {H : Type} {enc : TypeId × Value → H} {w : World} {base : Nat} {spare : Nat → Bool} {held : Bool} {fuel : Nat} (g : TypeId → Option (List Sh)) (hg : ∀ u es, g u = some es → OpD P u es) (chkF : List Field → Nat → Option (List Sh))
    (hnil : ∀ off, chkF [] off = some []) (hcons : ∀ f fs off es, chkF (f :: fs) off = some es → ∃ a b, g f.type = some a ∧ f.offset = off ∧ P.cellsOf f.type = a.length ∧ chkF fs (off + a.length) = some b ∧ es = a ++ b) :
    ∀ (fs : List Field) (off : Nat) (es : List Sh) (cs : List Value) (xs : List (DataW H × List MemPlace)), chkF fs off = some es → cs.length = off + es.length → xs.length = fs.length →
      (∀ (i : Nat) (f : Field), fs[i]? = some f → DataW.trod enc P w base spare held fuel f.type ((cs.drop f.offset).take (P.cellsOf f.type)) = xs[i]?) →
      (DataW.weightsEach P (fs.map (·.type)) (xs.map (·.1))).all (· ≤ reachBytes) = true → ∃ ds, CL (zc w) es (cs.drop off) ds
  | [], off, es, cs, xs, hc, hl, _, _, _ => by
    rw [hnil] at hc; cases hc
    exact ⟨[], List.drop_eq_nil_of_le (by simp at hl; omega), rfl⟩
  | f :: fs, off, es, cs, [], hc, hl, hx, _, _ => by simp at hx
  | f :: fs, off, es, cs, x :: xs, hc, hl, hx, ht, hw => by
    obtain ⟨a, b, h1, rfl, h3, h4, rfl⟩ := hcons f fs off es hc
    rw [List.length_append] at hl
    simp only [List.map_cons, DataW.weightsEach, List.all_append, Bool.and_eq_true] at hw
    have h5 := ht 0 f rfl
    rw [h3] at h5
    obtain ⟨ds, hd⟩ := hg _ _ h1 H enc w base spare held fuel _ x h5 hw.1
    obtain ⟨ds', hd'⟩ := opD_fields g hg chkF hnil hcons fs (f.offset + a.length) b cs xs h4 (by omega) (by simpa using hx) (fun i f' hf => by simpa using ht (i + 1) f' (by simpa using hf)) hw.2
    refine ⟨ds ++ ds', ?_⟩
    have := hd.append hd'
    rwa [← List.drop_drop, List.take_append_drop] at this
end
/-- the shapes of a type, everything that is wanted of it asked -/
def chkF (P : Program) (g : TypeId → Option (List Sh)) : List Field → Nat → Option (List Sh)
  | [], _ => some []
  | f :: fs, off => match g f.type with
    | some a => bif Nat.beq f.offset off && Nat.beq (P.cellsOf f.type) a.length then (match chkF P g fs (off + a.length) with | some b => some (a ++ b) | none => none) else none
    | none => none
def chkT (P : Program) : Nat → TypeId → Option (List Sh)
  | 0, _ => none
  | n + 1, t => match P.underlying t with
    | some (.int k) => some [.int k]
    | some .bool => some [.bool]
    | some .string => some [.str]
    | some (.slice e) => match chkT P n e with
      | some es => bif Nat.beq (P.cellsOf e) es.length && Nat.blt 0 es.length && Nat.ble (szB es) (P.bytesOf e) then some [.sl es] else none
      | none => none
    | some (.struct fs) => match chkF P (chkT P n) fs.toList 0 with
      | some es => bif Nat.beq (P.cellsOf t) es.length then some es else none
      | none => none
    | some (.array m e) => match chkT P n e with
      | some es => bif Nat.beq (P.cellsOf e) es.length && Nat.beq (P.cellsOf t) (m * es.length) then some (List.replicate m es).flatten else none
      | none => none
    | _ => none
theorem weightsAll_all {P : Program} {H : Type} {e : TypeId} {l : List (DataW H)} (h : (DataW.weightsAll P e l).all (· ≤ reachBytes) = true) : ∀ d ∈ l, (d.weights P e).all (· ≤ reachBytes) = true := weightsAll_mem h
theorem opD_rows {Z : Nat → Nat → Option Value} {es : List Sh} : ∀ (m : Nat) (cs : List Value), cs.length = m * es.length → (∀ i, i < m → ∃ ds, CL Z es ((cs.drop (i * es.length)).take es.length) ds) → ∃ ds, CL Z (List.replicate m es).flatten cs ds
  | 0, cs, hl, _ => ⟨[], List.eq_nil_of_length_eq_zero (by simpa using hl), rfl⟩
  | m + 1, cs, hl, h => by
    obtain ⟨ds, hd⟩ := h 0 (by omega)
    obtain ⟨ds', hd'⟩ := opD_rows (Z := Z) (es := es) m (cs.drop es.length) (by rw [List.length_drop, hl, Nat.succ_mul]; omega) (fun i hi => by
      obtain ⟨x, hx⟩ := h (i + 1) (by omega)
      exact ⟨x, by rwa [List.drop_drop, show es.length + i * es.length = (i + 1) * es.length by rw [Nat.succ_mul]; omega]⟩)
    refine ⟨ds ++ ds', ?_⟩
    rw [Nat.zero_mul, List.drop_zero] at hd
    have := hd.append hd'
    rw [List.take_append_drop] at this
    rw [List.replicate_succ, List.flatten_cons]
    exact this
theorem opD_of {P : Program} : ∀ (n : Nat) (t : TypeId) (es : List Sh), chkT P n t = some es → OpD P t es
  | 0, _, _, h => by cases h
  | n + 1, t, es, h => by
    simp only [chkT] at h
    split at h
    · rename_i k hu; cases h; exact opD_int hu
    · rename_i hu; cases h; exact opD_bool hu
    · rename_i hu; cases h; exact opD_str hu
    · rename_i e hu
      cases he : chkT P n e with
      | none => simp [he] at h
      | some es' =>
        simp only [he] at h
        cases hc : Nat.beq (P.cellsOf e) es'.length && Nat.blt 0 es'.length && Nat.ble (szB es') (P.bytesOf e)
        · rw [hc] at h; cases h
        · rw [hc] at h; cases h
          simp only [Bool.and_eq_true] at hc
          exact opD_slice hu (opD_of n e es' he) (Nat.eq_of_beq_eq_true hc.1.1) (Nat.le_of_ble_eq_true hc.1.2) (Nat.le_of_ble_eq_true hc.2)
    · rename_i fs hu
      cases hf : chkF P (chkT P n) fs.toList 0 with
      | none => simp [hf] at h
      | some es' =>
        simp only [hf] at h
        cases hc : Nat.beq (P.cellsOf t) es'.length
        · rw [hc] at h; cases h
        · rw [hc] at h; cases h
          have hl := Nat.eq_of_beq_eq_true hc
          intro H enc w base spare held fuel cs x hx hw
          obtain ⟨xs, m, _, rfl, h1, h2, h3⟩ := DataW.trod_struct hu hx
          rw [DataW.weights, hu] at hw
          obtain ⟨ds, hd⟩ := opD_fields (chkT P n) (fun u es hu => opD_of n u es hu) (chkF P (chkT P n)) (fun _ => rfl) (fun f fs off es hc => by
            simp only [chkF] at hc
            split at hc
            · rename_i a ha
              cases hb : Nat.beq f.offset off && Nat.beq (P.cellsOf f.type) a.length
              · rw [hb] at hc; cases hc
              · rw [hb] at hc
                simp only [Bool.and_eq_true] at hb
                simp only [cond_true] at hc
                split at hc
                · rename_i b hb'
                  cases hc
                  exact ⟨a, b, ha, Nat.eq_of_beq_eq_true hb.1, Nat.eq_of_beq_eq_true hb.2, hb', rfl⟩
                · cases hc
            · cases hc) fs.toList 0 _ cs xs hf (by rw [h1, hl, Nat.zero_add]) (by simpa using h2) (fun i f hf' => h3 i f (by simpa using hf')) (by simpa using hw)
          exact ⟨ds, by simpa using hd⟩
    · rename_i m e hu
      cases he : chkT P n e with
      | none => simp [he] at h
      | some es' =>
        simp only [he] at h
        cases hc : Nat.beq (P.cellsOf e) es'.length && Nat.beq (P.cellsOf t) (m * es'.length)
        · rw [hc] at h; cases h
        · rw [hc] at h; cases h
          simp only [Bool.and_eq_true] at hc
          have hce := Nat.eq_of_beq_eq_true hc.1
          intro H enc w base spare held fuel cs x hx hw
          obtain ⟨xs, k, _, rfl, h1, h2, h3⟩ := DataW.trod_array hu hx
          rw [DataW.weights, hu] at hw
          refine opD_rows m cs (by rw [h1, Nat.eq_of_beq_eq_true hc.2]) fun i hi => ?_
          have := h3 i hi
          rw [hce, List.getElem?_eq_getElem (by omega)] at this
          exact opD_of n e es' he H enc w base spare held k _ _ this (weightsAll_mem hw _ (List.mem_map_of_mem (List.getElem_mem _)))
    · cases h
/-- the cells as abstract values -/
def avL : List Sh → List D → List AV
  | s :: ss, d :: ds => leaf false s d :: avL ss ds
  | _, _ => []
theorem leaf_rel {E : Env} {s : Sh} {v : Value} {d : D} (h : LF E.Z s v d) : Rel E (leaf false s d) v := by
  cases s with
  | int k => exact ⟨h, rfl⟩
  | bool => exact ⟨h, rfl⟩
  | str => exact ⟨h, rfl⟩
  | sl es => exact ⟨h, trivial⟩
theorem avL_rel {E : Env} : ∀ {es : List Sh} {cs : List Value} {ds : List D}, CL E.Z es cs ds → RelL E (avL es ds) cs
  | [], _, _, ⟨h1, h2⟩ => by subst h1 h2; rfl
  | _ :: _, _, _, ⟨v, vs', d, ds', h1, h2, h3, _, h5⟩ => by subst h1 h2; exact ⟨v, vs', rfl, leaf_rel h3, avL_rel h5⟩
theorem cl_one {Z : Nat → Nat → Option Value} : ∀ {es : List Sh} {cs : List Value} {ds : List D}, CL Z es cs ds → ∀ u ∈ cs, u.oneCell' = true
  | [], _, _, ⟨h1, _⟩, u, hu => by subst h1; cases hu
  | s :: _, _, _, ⟨v, vs', d, ds', h1, _, h3, _, h5⟩, u, hu => by
    subst h1
    rcases List.mem_cons.1 hu with rfl | hu
    · cases s with
      | int k => rw [show u = _ from h3]; rfl
      | bool => rw [show u = _ from h3]; rfl
      | str => rw [show u = _ from h3]; rfl
      | sl es => obtain ⟨_, ad, cap, rfl, _⟩ := h3; rfl
    · exact cl_one h5 u hu
def wfL : List Sh → List D → Prop
  | s :: ss, d :: ds => wfS s d ∧ wfL ss ds
  | _, _ => True
theorem cl_wf {Z : Nat → Nat → Option Value} : ∀ {es : List Sh} {cs : List Value} {ds : List D}, CL Z es cs ds → wfL es ds
  | [], _, _, ⟨_, h2⟩ => by subst h2; trivial
  | _ :: _, _, _, ⟨_, _, _, _, _, h2, _, h4, h5⟩ => by subst h2; exact ⟨h4, cl_wf h5⟩
/-- the world as it is, nothing owned -/
def env0 (w : World) : Env := { β := fun _ => 0, live := fun _ => False, Z := zc w, vc := fun _ => .slice none 0 0, gn := fun _ => 0, ve := fun _ => 0, m := 0, ng := 0 }
theorem laid_none (E : Env) (h : layT = []) : Laid E := fun g vs hg => by rw [h] at hg; cases hg
theorem inv0 {P : Program} (w : World) (hl : Laid (env0 w) := by exact laid_none _ rfl) : Inv P w (fun _ => False) (env0 w) hp0 w :=
  ⟨Kpt.refl _ _, rfl, rfl, fun k hk => absurd hk (Nat.not_lt_zero k), fun k hk => absurd hk (Nat.not_lt_zero k), fun o => ⟨fun h => h.elim, fun h => by simp [hp0, lookO] at h⟩, fun o h => h.elim, fun o cs h => by simp [hp0, lookO] at h, fun o h => h.elim, fun o o' h => h.elim, fun b j v hv => hv, fun o j h => h.elim, fun k hk => absurd hk (Nat.not_lt_zero k), fun k k' b hk => absurd hk (Nat.not_lt_zero k), hl⟩
/-- a law is true where its tree says so -/
theorem law_calls {P : Program} {f : FuncId} {sp : Spec} (hs : SoundF P f sp) {args : List AV} {vals : List Value} {w : World} (hr : RelL (env0 w) args vals) (H : (treeF sp args).holds fun r => Le r (.sc false (.bool true))) (hl : Laid (env0 w) := by exact laid_none _ rfl) :
    Calls P f vals.toArray w fun e w' => e = .returned (.bool true) ∧ Below w.heap.size w w' := by
  unfold treeF at H
  rw [RT.holds_bind] at H
  refine (hs args hp0 _ H w (fun _ => False) (env0 w) w vals (inv0 w hl) hr).mono ?_
  rintro e w' ⟨r, h', v, E', hK, rfl, S, hv⟩
  obtain ⟨rfl, _⟩ := hK E' v (strip_rel _ _ hv)
  exact ⟨rfl, S.inv.kpt.below fun _ h => h.elim⟩
/-- an argument of one cell, of many -/
theorem arg_open {P : Program} {H : Type} {enc : TypeId × Value → H} {w : World} {base : Nat} {spare : Nat → Bool} {held : Bool} {t : TypeId} {v : Value} {d : DataW H} {p : List MemPlace} {es : List Sh} (hc : chkT P 8 t = some es)
    (h : DataW.Trod enc P w base spare held t v d p) (hw : (d.weights P t).all (· ≤ reachBytes) = true) : ∃ ds, CL (zc w) es v.cells.toList ds := by
  obtain ⟨fuel, hf⟩ := h
  exact opD_of 8 t es hc H enc w base spare held fuel _ _ hf hw
/-! Lists of so many. -/
theorem list1 {α : Type} {l : List α} (h : l.length = 1) : ∃ x0, l = [x0] := by
  match l, h with
  | [x0], _ => exact ⟨x0, rfl⟩
theorem list2 {α : Type} {l : List α} (h : l.length = 2) : ∃ x0 x1, l = [x0, x1] := by
  match l, h with
  | [x0, x1], _ => exact ⟨x0, x1, rfl⟩
theorem list3 {α : Type} {l : List α} (h : l.length = 3) : ∃ x0 x1 x2, l = [x0, x1, x2] := by
  match l, h with
  | [x0, x1, x2], _ => exact ⟨x0, x1, x2, rfl⟩
theorem list4 {α : Type} {l : List α} (h : l.length = 4) : ∃ x0 x1 x2 x3, l = [x0, x1, x2, x3] := by
  match l, h with
  | [x0, x1, x2, x3], _ => exact ⟨x0, x1, x2, x3, rfl⟩
theorem list5 {α : Type} {l : List α} (h : l.length = 5) : ∃ x0 x1 x2 x3 x4, l = [x0, x1, x2, x3, x4] := by
  match l, h with
  | [x0, x1, x2, x3, x4], _ => exact ⟨x0, x1, x2, x3, x4, rfl⟩
theorem list6 {α : Type} {l : List α} (h : l.length = 6) : ∃ x0 x1 x2 x3 x4 x5, l = [x0, x1, x2, x3, x4, x5] := by
  match l, h with
  | [x0, x1, x2, x3, x4, x5], _ => exact ⟨x0, x1, x2, x3, x4, x5, rfl⟩
theorem list7 {α : Type} {l : List α} (h : l.length = 7) : ∃ x0 x1 x2 x3 x4 x5 x6, l = [x0, x1, x2, x3, x4, x5, x6] := by
  match l, h with
  | [x0, x1, x2, x3, x4, x5, x6], _ => exact ⟨x0, x1, x2, x3, x4, x5, x6, rfl⟩
theorem list8 {α : Type} {l : List α} (h : l.length = 8) : ∃ x0 x1 x2 x3 x4 x5 x6 x7, l = [x0, x1, x2, x3, x4, x5, x6, x7] := by
  match l, h with
  | [x0, x1, x2, x3, x4, x5, x6, x7], _ => exact ⟨x0, x1, x2, x3, x4, x5, x6, x7, rfl⟩
theorem list9 {α : Type} {l : List α} (h : l.length = 9) : ∃ x0 x1 x2 x3 x4 x5 x6 x7 x8, l = [x0, x1, x2, x3, x4, x5, x6, x7, x8] := by
  match l, h with
  | [x0, x1, x2, x3, x4, x5, x6, x7, x8], _ => exact ⟨x0, x1, x2, x3, x4, x5, x6, x7, x8, rfl⟩
theorem list10 {α : Type} {l : List α} (h : l.length = 10) : ∃ x0 x1 x2 x3 x4 x5 x6 x7 x8 x9, l = [x0, x1, x2, x3, x4, x5, x6, x7, x8, x9] := by
  match l, h with
  | [x0, x1, x2, x3, x4, x5, x6, x7, x8, x9], _ => exact ⟨x0, x1, x2, x3, x4, x5, x6, x7, x8, x9, rfl⟩
theorem list12 {α : Type} {l : List α} (h : l.length = 12) : ∃ x0 x1 x2 x3 x4 x5 x6 x7 x8 x9 x10 x11, l = [x0, x1, x2, x3, x4, x5, x6, x7, x8, x9, x10, x11] := by
  match l, h with
  | [x0, x1, x2, x3, x4, x5, x6, x7, x8, x9, x10, x11], _ => exact ⟨x0, x1, x2, x3, x4, x5, x6, x7, x8, x9, x10, x11, rfl⟩
theorem relL_head {E : Env} {x : AV} {v : Value} (h : RelL E [x] [v]) : Rel E x v := by
  obtain ⟨u, r, h1, h2, _⟩ := h
  cases h1
  exact h2
theorem relL_nil {E : Env} : RelL E [] [] := rfl
theorem relL_cons {E : Env} {x : AV} {v : Value} {xs : List AV} {vs : List Value} (h : Rel E x v) (hs : RelL E xs vs) : RelL E (x :: xs) (v :: vs) := ⟨v, vs, rfl, h, hs⟩
end
end Go.Proofs.YtomblhnchdokmaaGreatDoor

namespace Go.Proofs.YtomblhnchdokmaaGreatDoor
set_option linter.unusedSimpArgs false
set_option linter.unusedVariables false
open Go.RowKit
/-- a law's tree ends in true (hidden from the elaborator) -/
structure Tru (t : RT AV) : Prop where
  h : t.holds fun r => Le r (.sc false (.bool true))
theorem law_callsL {P : Program} {f : FuncId} {sp : Spec} (hs : SoundF P f sp) {w : World} (hl : Laid (env0 w)) {args : List AV} {vals : List Value} (hr : RelL (env0 w) args vals) (H : Tru (treeF sp args)) :
    Calls P f vals.toArray w fun e w' => e = .returned (.bool true) ∧ Below w.heap.size w w' := law_calls hs hr H.h hl
end Go.Proofs.YtomblhnchdokmaaGreatDoor
