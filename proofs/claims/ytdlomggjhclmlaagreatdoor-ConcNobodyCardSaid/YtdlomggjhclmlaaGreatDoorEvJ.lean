/- EvJ: contracts whose answer is a slice of the call's own, that may grow. No condition. -/
import Derived.Test.YtdlomggjhclmlaaGreatDoorEvI
namespace Go.Proofs.YtdlomggjhclmlaaGreatDoor
set_option linter.unusedSimpArgs false
set_option linter.unusedVariables false
open Go.RowKit
set_option maxRecDepth 10000
noncomputable section
section
variable {P : Program} {E : Env} {h : Hp} {w w0 w' : World} {G : Nat → Prop}

theorem own_vecE (I : Inv P w0 G E h w) {e : TypeId} {kn : Bool} {es : List Sh} {d : D} {v : Value} {news : List Value} (hsz : sizeT P e = some es.length) (hb : Below w.heap.size w w') (ho : w'.ownsRow w.heap.size e es.length v d.len news)
    (h1 : ∀ u ∈ news, u.oneCell' = true) (hbd : d.len * szB es ≤ room) (hre : ∀ i, i < d.len → RE E.Z es news.toArray (i * es.length) (d.get i) 0) :
    ∃ E', Stepd P w0 G E h w E' (newVec kn es d e h).2 w' ∧ Rel E' (newVec kn es d e h).1 v := by
  have ho0 : ownsR w' 0 e es.length v d.len ([] ++ news) := owns_r ho
  have hown : v.ownBlock = none ∨ ∃ g, v.ownBlock = some g ∧ w.heap.size ≤ g := by
    rcases ho.2 with ⟨rfl, _⟩ | ⟨g, cap, cur, rfl, h2, h3⟩
    · exact .inl rfl
    · exact .inr ⟨g, rfl, h2⟩
  have S := I.vec_setG (v := .slice none 0 0) (v' := v) (k := h.nv) (m := h.nv + 1) (e := e) (xs := []) (.inr ⟨rfl, rfl, rfl⟩) (fun b hb => by cases hb) hsz ho0 (by simpa using h1) (Kpt.of_below hb _) hown
  refine ⟨_, S, ?_, ?_, ?_, ?_⟩
  · have hZg : ∀ g, v.ownBlock = some g → ∀ k u, news.toArray[k]? = some u → (E.grow h.nv v h.ng e (h.nv + 1) ([] ++ news)).Z g k = some u := fun g hg k u hu => by
      simp only [Env.grow, if_pos hg]; simpa using hu
    rcases ho.2 with ⟨rfl, h0⟩ | ⟨g, cap, cur, rfl, h2, _, hnc, hcm, _⟩
    · exact ⟨hbd, none, 0, by rw [h0], by rw [h0]; exact Nat.le_refl _, Nat.zero_le _, fun _ => rfl, fun hn => absurd h0 hn⟩
    · refine ⟨hbd, some ⟨g, 0, none⟩, cap, rfl, hnc, hcm, (fun h => by cases h), fun _ => ⟨g, 0, rfl, fun i hi => ?_⟩⟩
      have := re_el (Z' := (E.grow h.nv _ h.ng e (h.nv + 1) ([] ++ news)).Z) S.ext.Z (hZg g rfl) (hre i hi)
      rw [Nat.zero_add]; exact this
  · simp [Env.grow]
  · simp [Env.grow]
  · intro _; simp [Env.grow]
/-- a function whose answer is a slice of its own -/
def vecS (P : Program) (f : FuncId) (e : TypeId) (es : List Sh) (F : List AV → RT (Bool × D)) : Spec := fun args h => (F (args0 P f args)).bind fun r => .ok (newVec (r.1 || allKL args) es (bif allKL args then knowD r.2 else r.2) e h)
theorem re_know {Z : Nat → Nat → Option Value} {cs : Array Value} : ∀ {es : List Sh} {p : Nat} {d : D} {j : Nat}, RE Z es cs p d j → RE Z es cs p (knowD d) j
  | [], _, _, _, _ => trivial
  | _ :: _, _, _, _, ⟨⟨v, h1, h2⟩, h3⟩ => ⟨⟨v, h1, by rw [knowD_cell]; exact know_lf _ _ _ h2⟩, re_know h3⟩
theorem vec_direct {f : FuncId} {e : TypeId} {es : List Sh} {F : List AV → RT (Bool × D)} (hsz : sizeT P e = some es.length) (hF : ∀ args K, (F args).holds K → ∀ w0 G E h w vals, Inv P w0 G E h w → RelL E args vals → Calls P f vals.toArray w fun ev w' => ∃ kn d v news, K (kn, d) ∧ ev = .returned v ∧ Below w.heap.size w w' ∧
    w'.ownsRow w.heap.size e es.length v d.len news ∧ (∀ u ∈ news, u.oneCell' = true) ∧ d.len * szB es ≤ room ∧ ∀ i, i < d.len → RE E.Z es news.toArray (i * es.length) (d.get i) 0) : SoundF P f (vecS P f e es F) := by
  intro args h K H w0 G E w vals I hr
  unfold vecS at H
  rw [RT.holds_bind] at H
  refine (hF _ _ H w0 G E h w vals I (args0_rel hr)).mono ?_
  rintro ev w' ⟨kn, d, v, news, hK, rfl, hb, ho, h1, hbd, hre⟩
  cases hk : allKL args
  · rw [hk] at hK
    obtain ⟨E', S, hv⟩ := own_vecE (kn := kn || false) I hsz hb ho h1 hbd hre
    exact ⟨_, _, v, E', hK, rfl, S, hv⟩
  · rw [hk] at hK
    obtain ⟨E', S, hv⟩ := own_vecE (kn := kn || true) (d := knowD d) I hsz hb (by rw [knowD_len]; exact ho) h1 (by rw [knowD_len]; exact hbd) (fun i hi => by rw [knowD_get]; exact re_know (hre i (by rwa [knowD_len] at hi)))
    exact ⟨_, _, v, E', hK, rfl, S, hv⟩
theorem re_bytes {Z : Nat → Nat → Option Value} {l : List UInt8} {i : Nat} (hm : l.length ≤ maxLen) (hi : i < (eBs l).len) : RE Z [.int .u8] (l.map bv).toArray (i * 1) ((eBs l).get i) 0 := by
  rw [len_eBs hm] at hi
  refine ⟨⟨bv (l[i]?.getD 0), by simp [hi], ?_⟩, trivial⟩
  show bv _ = .int .u8 (((eBs l).get i).cell 0).toI
  unfold D.get
  rw [toL_eBs hm]
  simp [hi, eB, D.cell, D.toI, bv]
end
end
end Go.Proofs.YtdlomggjhclmlaaGreatDoor
