/- Arguments opened: what a value of a type reads as. No condition. -/
import Derived.Test.YtdlomggjhclmlaaGreatDoorMg1
import Derived.Test.YtdlomggjhclmlaaGreatDoorFrame
namespace Go.Proofs.YtdlomggjhclmlaaGreatDoor
set_option linter.unusedSimpArgs false
set_option linter.unusedVariables false
open Go.RowKit Go.ChangeShapes Go.WideShapes Go.ChangeAt
set_option maxRecDepth 10000

/-- v is a slice of l; each element's n cells are told by R -/
def Sl {α : Type} (n : Nat) (R : World → List Value → α → Prop) (w : World) (v : Value) (l : List α) : Prop :=
  ∃ a cap, v = .slice a l.length cap ∧ l.length ≤ cap ∧ cap ≤ maxLen ∧ (a = none → cap = 0) ∧ (l ≠ [] → ∃ b o, a = some ⟨b, o, none⟩ ∧ ∀ i x, l[i]? = some x → ∃ cs, rng w b (o + i * n) n = some cs ∧ R w cs x)

/-- whatever can be read as a value of type t has cells that R tells -/
def Opens {α : Type} (P : Program) (t : TypeId) (R : World → List Value → α → Prop) : Prop :=
  ∀ (H : Type) (enc : TypeId × Value → H) (w : World) (base : Nat) (spare : Nat → Bool) (held : Bool) (fuel : Nat) (cs : List Value) (x : DataW H × List MemPlace),
    DataW.trod enc P w base spare held fuel t cs = some x → ∃ a, R w cs a

theorem Opens.map {α β : Type} {P : Program} {t : TypeId} {R : World → List Value → α → Prop} {R' : World → List Value → β → Prop} (h : Opens P t R) (hm : ∀ w cs a, R w cs a → ∃ b, R' w cs b) : Opens P t R' :=
  fun H enc w base spare held fuel cs x hx => by obtain ⟨a, ha⟩ := h H enc w base spare held fuel cs x hx; exact hm w cs a ha
theorem opens_int {P : Program} {t : TypeId} {k : IntKind} (ht : P.underlying t = some (.int k)) : Opens P t (fun _ cs (n : Int) => cs = [.int k n] ∧ (Lit.int k n).wf = true) :=
  fun _ _ _ _ _ _ _ _ _ h => by obtain ⟨n, h1, _, h2⟩ := DataW.trod_int ht h; exact ⟨n, h1, h2⟩
theorem opens_bool {P : Program} {t : TypeId} (ht : P.underlying t = some .bool) : Opens P t (fun _ cs (b : Bool) => cs = [.bool b]) :=
  fun _ _ _ _ _ _ _ _ _ h => by obtain ⟨b, h1, _⟩ := DataW.trod_bool ht h; exact ⟨b, h1⟩
theorem opens_string {P : Program} {t : TypeId} (ht : P.underlying t = some .string) : Opens P t (fun _ cs (s : ByteArray) => cs = [.string s] ∧ s.size ≤ maxLen) :=
  fun _ _ _ _ _ _ _ _ _ h => by obtain ⟨s, h1, _, h2⟩ := DataW.trod_string ht h; exact ⟨s, h1, h2⟩
theorem opens_byte {P : Program} {t : TypeId} (ht : P.underlying t = some (.int .u8)) : Opens P t (fun _ cs (b : UInt8) => cs = [bv b]) :=
  (opens_int ht).map fun _ _ n ⟨h1, h2⟩ => by obtain ⟨b, rfl⟩ := byte_of_wf h2; exact ⟨b, h1⟩
theorem list_of_each {α : Type} {Q : Nat → α → Prop} : ∀ (k : Nat), (∀ i, i < k → ∃ y, Q i y) → ∃ l : List α, l.length = k ∧ ∀ i y, l[i]? = some y → Q i y
  | 0, _ => ⟨[], rfl, fun i y h => by simp at h⟩
  | k + 1, h => by
    obtain ⟨l, h1, h2⟩ := list_of_each k (fun i hi => h i (by omega))
    obtain ⟨y, hy⟩ := h k (by omega)
    refine ⟨l ++ [y], by simp [h1], fun i z hz => ?_⟩
    by_cases hi : i < l.length
    · rw [List.getElem?_append_left hi] at hz; exact h2 i z hz
    · have hil := (List.getElem?_eq_some_iff.1 hz).1
      simp only [List.length_append, List.length_cons, List.length_nil] at hil
      obtain rfl : i = k := by omega
      rw [List.getElem?_append_right (by omega), h1] at hz
      simp only [Nat.sub_self, List.getElem?_cons_zero, Option.some.injEq] at hz
      exact hz ▸ hy
theorem addr_add_eq {b o k : Nat} : (⟨b, o, none⟩ : Addr).add k = ⟨b, o + k, none⟩ := by unfold Addr.add; split <;> simp_all
theorem opens_slice {α : Type} {P : Program} {t e n : Nat} {R : World → List Value → α → Prop} (ht : P.underlying t = some (.slice e)) (hn : P.cellsOf e = n) (hpos : 0 < n) (he : Opens P e R) :
    Opens P t (fun w cs (l : List α) => ∃ v, cs = [v] ∧ Sl n R w v l) := fun H enc w base spare held fuel cs x h => by
  rcases DataW.trod_slice ht h with ⟨rfl, _⟩ | ⟨a, len, cap, elems, rest, m, _, rfl, _, _, hl, hm, hlen, hel, _, _⟩
  · exact ⟨[], _, rfl, none, 0, rfl, Nat.le_refl _, Nat.zero_le _, fun _ => rfl, fun h => absurd rfl h⟩
  · have hex : ∀ i, i < len → ∃ y cs', w.cells? base (a.add (i * n)) n = some cs' ∧ R w cs' y := fun i hi => by
      have := hel i hi
      rw [hn, List.getElem?_eq_getElem (by omega)] at this
      obtain ⟨cs', h1, h2⟩ := Option.bind_eq_some_iff.1 this
      obtain ⟨y, hy⟩ := he H enc w base spare held m cs' _ h2
      exact ⟨y, cs', h1, hy⟩
    obtain ⟨l, hll, hl2⟩ := list_of_each (Q := fun i y => ∃ cs', w.cells? base (a.add (i * n)) n = some cs' ∧ R w cs' y) len hex
    refine ⟨l, _, rfl, some a, cap, by rw [hll], by omega, hm, (fun h => by cases h), fun hne => ?_⟩
    have hlp : 0 < l.length := List.length_pos_iff.2 hne
    have cel : ∀ i (cs' : List Value), w.cells? base (a.add (i * n)) n = some cs' → cs'.length = n ∧ ∀ j, j < n → w.cell? ((a.add (i * n)).add j) = cs'[j]? := fun i cs' h => by
      have := World.cells?_some h
      exact ⟨this.2.1, this.2.2⟩
    obtain ⟨cs0, h0, _⟩ := hl2 0 _ (List.getElem?_eq_getElem hlp)
    obtain ⟨k1, k2⟩ := cel 0 cs0 h0
    have hz := k2 0 hpos
    rw [Nat.zero_mul, List.getElem?_eq_getElem (by omega)] at hz
    have hs : a.spot = none := by
      have e0 : (a.add 0).add 0 = a := rfl
      rw [e0] at hz
      unfold World.cell? at hz
      split at hz
      · split at hz
        · cases hz
        · rename_i hh; simpa using hh
      · cases hz
    obtain ⟨b, o, sp⟩ := a
    obtain rfl : sp = none := hs
    refine ⟨b, o, rfl, fun i y hy => ?_⟩
    obtain ⟨cs', g1, g2⟩ := hl2 i y hy
    obtain ⟨k3, k4⟩ := cel i cs' g1
    refine ⟨cs', ?_, g2⟩
    have : w.rangeAt b (o + i * n) cs' := fun j v hv => by
      have hj : j < n := by have := (List.getElem?_eq_some_iff.1 hv).1; omega
      have := k4 j hj
      rw [addr_add_eq, addr_add_eq] at this
      rw [this, hv]
    have hr := rng_of this (by rintro rfl; simp at k3; omega)
    rwa [k3] at hr

/-- the fields of a struct, one by one -/
def OpensF {α : Type} (P : Program) (fs : List Field) (off : Nat) (R : World → List Value → α → Prop) : Prop :=
  ∀ (H : Type) (enc : TypeId × Value → H) (w : World) (base : Nat) (spare : Nat → Bool) (held : Bool) (fuel : Nat) (cs : List Value),
    (∀ (i : Nat) (f : Field), fs[i]? = some f → ∃ x, DataW.trod enc P w base spare held fuel f.type ((cs.drop (f.offset - off)).take (P.cellsOf f.type)) = some x) → (fs = [] → cs = []) → ∃ a, R w cs a
theorem opensF_nil {P : Program} {off : Nat} : OpensF P [] off (fun _ cs (_ : Unit) => cs = []) := fun _ _ _ _ _ _ _ _ _ h => ⟨(), h rfl⟩
theorem opensF_cons {α β : Type} {P : Program} {f : Field} {fs : List Field} {off n : Nat} {R : World → List Value → α → Prop} {R' : World → List Value → β → Prop} (ho : f.offset = off) (hn : P.cellsOf f.type = n) (hr : ∀ g ∈ fs, off + n ≤ g.offset)
    (h1 : Opens P f.type R) (h2 : OpensF P fs (off + n) R') (hlast : fs = [] → ∀ w cs a, R w cs a → True) : OpensF P (f :: fs) off (fun w cs (x : α × β) => R w (cs.take n) x.1 ∧ R' w (if fs = [] then [] else cs.drop n) x.2) := fun H enc w base spare held fuel cs h _ => by
  obtain ⟨x, hx⟩ := h 0 f rfl
  rw [ho, Nat.sub_self, List.drop_zero, hn] at hx
  obtain ⟨a, ha⟩ := h1 H enc w base spare held fuel _ _ hx
  obtain ⟨b, hb⟩ := h2 H enc w base spare held fuel (if fs = [] then [] else cs.drop n) (fun i g hg => by
    obtain ⟨y, hy⟩ := h (i + 1) g (by simpa using hg)
    have hgm := hr g (List.mem_of_getElem? hg)
    have hne : fs ≠ [] := by rintro rfl; simp at hg
    refine ⟨y, ?_⟩
    rw [if_neg hne, List.drop_drop, show n + (g.offset - (off + n)) = g.offset - off by omega]
    exact hy) (fun e => by rw [if_pos e])
  exact ⟨(a, b), ha, hb⟩
theorem opens_struct {α : Type} {P : Program} {t : TypeId} {fs : Array Field} {R : World → List Value → α → Prop} (ht : P.underlying t = some (.struct fs)) (h : OpensF P fs.toList 0 R) (hne : fs.toList ≠ []) :
    Opens P t (fun w cs a => cs.length = P.cellsOf t ∧ R w cs a) := fun H enc w base spare held fuel cs x hx => by
  obtain ⟨xs, n, _, _, hl, hlen, hf⟩ := DataW.trod_struct ht hx
  obtain ⟨a, ha⟩ := h H enc w base spare held n cs (fun (i : Nat) (f : Field) (hi : fs.toList[i]? = some f) => by
    have hi' : fs[i]? = some f := by simpa using hi
    have hlt : i < xs.length := by rw [hlen]; exact (Array.getElem?_eq_some_iff.1 hi').1
    have := hf i f hi'
    rw [List.getElem?_eq_getElem hlt] at this
    rw [Nat.sub_zero]
    exact ⟨_, this⟩) (fun e => absurd e hne)
  exact ⟨a, hl, ha⟩
theorem opens_array {α : Type} {P : Program} {t e n k : Nat} {R : World → List Value → α → Prop} (ht : P.underlying t = some (.array k e)) (hn : P.cellsOf e = n) (h : Opens P e R) :
    Opens P t (fun w cs (l : List α) => cs.length = P.cellsOf t ∧ l.length = k ∧ ∀ i a, l[i]? = some a → R w ((cs.drop (i * n)).take n) a) := fun H enc w base spare held fuel cs x hx => by
  obtain ⟨xs, m, _, _, hl, hlen, hf⟩ := DataW.trod_array ht hx
  rw [hn] at hf
  have hex : ∀ i, i < k → ∃ a, R w ((cs.drop (i * n)).take n) a := fun i hi => by
    have := hf i hi
    rw [List.getElem?_eq_getElem (by omega)] at this
    exact h H enc w base spare held m _ _ this
  obtain ⟨l, h1, h2⟩ := list_of_each k hex
  exact ⟨l, hl, h1, h2⟩

/-- an argument -/
theorem opens_arg {α : Type} {H : Type} {enc : TypeId × Value → H} {P : Program} {w : World} {base : Nat} {spare : Nat → Bool} {held : Bool} {t : TypeId} {v : Value} {d : DataW H} {p : List MemPlace} {R : World → List Value → α → Prop} (ho : Opens P t R)
    (h : DataW.Trod enc P w base spare held t v d p) : ∃ a, R w v.cells.toList a := by
  obtain ⟨fuel, hf⟩ := h
  exact ho H enc w base spare held fuel _ _ hf
theorem arg_agg {P : Program} {w : World} {r : Reach} {b0 t : Nat} {v : Value} {fs : Array Field} (ht : P.underlying t = some (.struct fs)) (h : Value.okWide P w r b0 t v) : ∃ cs : List Value, v = .agg cs.toArray := by
  simp only [Value.okWide, ht] at h
  obtain ⟨cs, h1, _⟩ := h
  exact ⟨cs.toList, by rw [h1]⟩
end Go.Proofs.YtdlomggjhclmlaaGreatDoor
