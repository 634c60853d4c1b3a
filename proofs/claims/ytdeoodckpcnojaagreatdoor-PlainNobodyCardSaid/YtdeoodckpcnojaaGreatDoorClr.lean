/- Clr: slices.Clone of options into a row that may change. No condition. -/
import Derived.Test.YtdeoodckpcnojaaGreatDoorEvN
import Derived.Test.YtdeoodckpcnojaaGreatDoorPut
import Derived.Test.YtdeoodckpcnojaaGreatDoorEvG
namespace Go.Proofs.YtdeoodckpcnojaaGreatDoor
set_option linter.unusedSimpArgs false
set_option linter.unusedVariables false
open Go.RowKit
set_option maxRecDepth 100000
noncomputable section

-- DEFS
/-- a copy in a row of one's own, that may change -/
abbrev opS : List Sh := [.int .i64, .sl [.int .u8]]
def cloneRowS : Spec := fun args h => match args with
  | [.sl kn es d _] => bif Sh.eqsL es opS then brk kn (decide (d.len = 0)) (.ok (.sl true opS (.l []) none, h)) (.ok (.rsl kn h.nx 2 d.len, (newA [.rw opS d] h).2)) else .bad 214
  | [.sc _ (.slice none 0 0)] => .ok (.sl true opS (.l []) none, h)
  | _ => .bad 215
-- END
theorem el_opt : ElemOf Tryz.prog 52 326 2 32 (.agg #[.int .i64 0, .slice none 0 0]) := ⟨by kernel_rfl, ⟨_, rfl, rfl, rfl, rfl⟩, rfl, by decide, by decide⟩
theorem eqlo_nil {w : World} {t e : TypeId} {a : Option Addr} {n c : Nat} (h : Tryz.prog.underlying t = some (.slice e)) : (binOp .eql t (.slice a n c) (.slice none 0 0)).run Tryz.prog w = .ok (.bool a.isNone) w :=
  Lib.run_eql_slice_nil w t e a n c 0 0 h
theorem srcO_alloc {w : World} {size : Nat} {v : Value} {n : Nat} {xs : List Value} (h : SrcOf w size v n xs) (x : Obj) : SrcOf (w.alloc x) size v n xs := h.alloc x
/-- a copy of a row that is not nil -/
theorem clone_opt (ad : Addr) (n cap : Nat) (xs : List Value) (w : World) (hs : SrcOf w 2 (.slice (some ad) n cap) n xs) (hn : n * 32 ≤ 140737488355328) :
    Calls Tryz.prog 275 #[.slice (some ad) n cap] w fun e w' => ∃ v', e = .returned v' ∧ Below w.heap.size w w' ∧ w'.ownsRow w.heap.size 326 2 v' n xs := by
  have hq : ∀ W, (binOp .eql 52 (.slice (some ad) n cap) (.slice none 0 0)).run Tryz.prog W = .ok (.bool false) W := fun W => eqlo_nil el_opt.ht
  have Hsrc := Lib.hid (srcO_alloc hs (.cells #[] 326))
  have Hown := Lib.hid (own_empty w w.heap.size (Nat.le_refl _) 326 2)
  go_enter Tryz.func275, Tryz.ntmps275
  go_wp2_with (at_builtin; go_must (refine wpList_append_from rfl _ _ _ rfl w.heap.size el_opt rfl Hown.out rfl Hsrc.out (by omega) (by simp) ?_); intro v' w' ho hg hb)
  refine bodyPost_ret (v := v') (by simp [results, Tryz.results275, go_sem]) rfl ⟨_, rfl, ((Below.refl _ _).alloc (Nat.le_refl _) _).trans hb, ?_⟩
  simpa using ho
theorem clone_optN (w : World) :
    Calls Tryz.prog 275 #[.slice none 0 0] w fun e w' => e = .returned (.slice none 0 0) ∧ w' = w := by
  have hq : ∀ W, (binOp .eql 52 (.slice none 0 0) (.slice none 0 0)).run Tryz.prog W = .ok (.bool true) W := fun W => eqlo_nil el_opt.ht
  go_enter Tryz.func275, Tryz.ntmps275
  go_wp2
  exact bodyPost_ret (v := .slice none 0 0) (by simp [results, Tryz.results275, go_sem]) rfl ⟨rfl, rfl⟩
theorem lf_empty {Z : Nat → Nat → Option Value} {es : List Sh} {w : World} {base e sz : Nat} {v : Value} {xs : List Value} (h : w.ownsRow base e sz v 0 xs) : LF Z (.sl es) v (.l []) := by
  have h0 : (D.l []).len = 0 := by simp [D.len, D.toL, D.raw]
  rcases h.2 with ⟨rfl, _⟩ | ⟨g, cap, cur, rfl, _, _, _, hcm, _⟩
  · exact ⟨by rw [h0, Nat.zero_mul]; exact Nat.zero_le _, none, 0, by rw [h0], by rw [h0]; exact Nat.le_refl _, Nat.zero_le _, fun _ => rfl, fun hn => absurd h0 hn⟩
  · exact ⟨by rw [h0, Nat.zero_mul]; exact Nat.zero_le _, some ⟨g, 0, none⟩, cap, by rw [h0], by rw [h0]; exact Nat.zero_le _, hcm, (fun h => by cases h), fun hn => absurd h0 hn⟩
theorem cloneRow_soundF : SoundF Tryz.prog 275 cloneRowS := by
  intro args h K H w0 G E w vals I hr
  unfold cloneRowS at H
  split at H
  · rename_i kn es d tip
    cases hes : Sh.eqsL es opS
    · rw [hes] at H; exact H.elim
    rw [hes] at H
    simp only [cond_true] at H
    obtain rfl := Sh.eqsL_eq _ _ hes
    obtain ⟨v, vs', rfl, ⟨hl, _⟩, h3⟩ := hr
    have h3' : vs' = [] := h3
    subst h3'
    obtain ⟨news, hsrc, hnl, hone, hrest⟩ := slice_cells I hl
    obtain ⟨hbd, ad, cap, rfl, h1, h2, h3, h4⟩ := hl
    have hbd' : d.len * 32 ≤ 140737488355328 := by
      have : d.len * 32 ≤ 140737488355328 := hbd
      omega
    rcases brk_holds H with ⟨h0, H⟩ | ⟨h0, H⟩
    · have h0 := of_decide_eq_true h0
      cases ad with
      | none =>
        have hc := h3 rfl
        rw [h0, hc]
        refine (clone_optN w).mono ?_
        rintro e w' ⟨rfl, rfl⟩
        refine ⟨_, h, _, E, H, rfl, Stepd.refl I, ⟨?_, trivial⟩⟩
        have h0' : (D.l []).len = 0 := by simp [D.len, D.toL, D.raw]
        exact ⟨by rw [h0', Nat.zero_mul]; exact Nat.zero_le _, none, 0, by rw [h0'], by rw [h0']; exact Nat.le_refl _, Nat.zero_le _, fun _ => rfl, fun hn => absurd h0' hn⟩
      | some ad =>
        refine (clone_opt ad d.len cap news w hsrc hbd').mono ?_
        rintro e w' ⟨v', rfl, hb, ho⟩
        rw [h0] at ho
        exact ⟨_, h, v', _, H, rfl, I.fresh hb, lf_empty ho, trivial⟩
    · have h0 := of_decide_eq_false h0
      obtain ⟨b, o, ⟨n', c', hv⟩, hel, hz⟩ := hrest h0
      cases ad with
      | none => cases hv
      | some ad =>
        refine (clone_opt ad d.len cap news w hsrc hbd').mono ?_
        rintro e w' ⟨v', rfl, hb, ho⟩
        have hre : ∀ i, i < d.len → RE E.Z opS news.toArray (i * opS.length) (d.get i) 0 := fun i hi => by
          refine el_re hz ?_ (hel i hi)
          have := Nat.mul_le_mul_right opS.length (show i + 1 ≤ d.len by omega)
          rw [Nat.add_mul, Nat.one_mul] at this
          rw [hnl]; omega
        obtain ⟨E', S, hv'⟩ := own_rowE (kn := kn) (es := opS) (d := d) I hb ho h0 hbd hre
        exact ⟨_, _, v', E', H, rfl, S, hv'⟩
  · obtain ⟨v, vs', rfl, ⟨rfl, _⟩, h3⟩ := hr
    have h3' : vs' = [] := h3
    subst h3'
    refine (clone_optN w).mono ?_
    rintro e w' ⟨rfl, rfl⟩
    refine ⟨_, h, _, E, H, rfl, Stepd.refl I, ⟨?_, trivial⟩⟩
    have h0' : (D.l []).len = 0 := by simp [D.len, D.toL, D.raw]
    exact ⟨by rw [h0', Nat.zero_mul]; exact Nat.zero_le _, none, 0, by rw [h0'], by rw [h0']; exact Nat.le_refl _, Nat.zero_le _, fun _ => rfl, fun hn => absurd h0' hn⟩
  · exact H.elim
end
end Go.Proofs.YtdeoodckpcnojaaGreatDoor
