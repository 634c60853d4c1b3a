/- MpW: texts of this claim, one behind the other: Cat Grw Clr W0. No condition. -/
import Derived.Test.YtomblhnchdokmaaGreatDoorProg
import Derived.Test.YtomblhnchdokmaaGreatDoorMp1
import Derived.Test.YtomblhnchdokmaaGreatDoorMpA
import Derived.Test.YtomblhnchdokmaaGreatDoorMp6
import Derived.Test.YtomblhnchdokmaaGreatDoorMp8
import Derived.Test.YtomblhnchdokmaaGreatDoorMp5
namespace Go.Proofs.YtomblhnchdokmaaGreatDoor
set_option linter.unusedSimpArgs false
set_option linter.unusedVariables false
open Go.RowKit
set_option maxRecDepth 10000

/-- 'append(nil, make([]T, n)...)', n above 0 -/
theorem run_append_make_nil {P : Program} (w : World) (t u ty e : TypeId) (i : TypeInfo) (z : Value) {k : IntKind} (ht : P.underlying t = some (.slice e)) (hu : P.underlying u = some (.int k)) (hi : P.info? e = some i) (hz : i.zero = some z)
    (n : Nat) (h0 : 0 < n) (h63 : (n : Int) ≤ 9223372036854775807) (h48 : n * i.bytes ≤ 281474976710656) (hs : 0 < i.size) :
    (Builtin.append_ #[t, u] ty #[.slice none 0 0, .int .i64 n]).run P w =
      .ok (.slice (some ⟨w.heap.size, 0, none⟩) n (grownCap w n 0 e))
        (w.drew.alloc (.cells (Builtin.zeroCells z.cells n ++ Builtin.zeroCells z.cells (grownCap w n 0 e - n)) e)) := by
  have hn : n ≠ 0 := by omega
  have h63' : ¬ (9223372036854775807 < (n : Int)) := by omega
  have h48' : ¬ (281474976710656 < Builtin.nextslicecap n 0 * i.bytes) := by rw [nextslicecap_zero h0]; omega
  have hw : IntKind.i64.wrap (n : Int) = n := by rw [IntKind.wrap_i64]; omega
  have hneg : ¬ ((n : Int) < 0) := by omega
  have hb : ¬ (281474976710656 < (n : Int) * (i.bytes : Int)) := by
    rw [← Int.natCast_mul]; omega
  have hz' : n * i.size ≠ 0 := Nat.mul_ne_zero hn (by omega)
  simp [Builtin.append_, run_underlying ht, run_underlying hu, sizeOf, typeInfo, zeroValue, hi, hz, asInt, asIntOf, Builtin.firstCells, hw, hneg, hb, hn, h63', h48', hz', Question.forced, newRow, grownCap]

/-- behind Grow: a row of no element with room -/
theorem wpList_append_make_nil {P : Program} {w : World} {ops : Array Oper} {rest : List Oper} {o : Oper} {a : Act} {Q : Exit → Act → World → Prop} (hgd : o.guard = none) (s x : Operand) (t u : TypeId)
    (ho : o.op = .call { callee := .builtin .append, args := #[s, x], argTypes := #[t, u] })
    {e : TypeId} {size bytes : Nat} {z : Value} (hE : ElemOf P t e size bytes z) {k : IntKind} (hu : P.underlying u = some (.int k))
    (hs : a.eval s = .slice none 0 0) {n : Nat} (hx : a.eval x = .int .i64 n) (h0 : 0 < n) (hb : n * bytes ≤ 140737488355328)
    (h : ∀ cap w', n ≤ cap → w'.ownsRow w.heap.size e size (.slice (some ⟨w.heap.size, 0, none⟩) 0 cap) 0 [] → Below w.heap.size w w' → wpList P ops Q rest (a.put o.dst (.slice (some ⟨w.heap.size, 0, none⟩) n cap)) w') : wpList P ops Q (o :: rest) a w := by
  obtain ⟨ht, ⟨i, hi, hz, rfl, rfl⟩, hzs, hpos, hone⟩ := hE
  have hn : n ≤ 140737488355328 := Nat.le_trans (Nat.le_mul_of_pos_right n hone) hb
  have hr := run_append_make_nil (P := P) w t u o.type e i z ht hu hi hz n h0 (by omega) (by omega) hpos
  refine wpList_plain hgd fun K hK => ?_
  unfold Oper.wp execOp
  simp only [ho, resolve, invoke, builtin, Sem.run_bind, Sem.run_pure, Result.andThen_ok, List.map_toArray, List.map_cons, List.map_nil, hs, hx, hr]
  refine hK _ _ (h _ _ (grownCap_ge w n 0 e) ⟨by simp, .inr ⟨w.heap.size, _, _, rfl, Nat.le_refl _, heap_alloc_new w.drew _, Nat.zero_le _, grownCap_le_maxLen w n 0 e (by unfold maxLen; omega), ?_, by simp⟩⟩ ((Below.refl w.heap.size w).drew.alloc (by simp) _))
  have := grownCap_ge w n 0 e
  simp only [Array.size_append, size_zeroCells, hzs, ← Nat.add_mul]
  congr 1
  omega

theorem grow_nil (n : Nat) (hn : n ≤ 140737488355328) (w : World) :
    Calls Tryz.prog 272 #[.slice none 0 0, .int .i64 n] w fun e w' => ∃ v, e = .returned v ∧ Below w.heap.size w w' ∧ w'.ownsRow w.heap.size 5 1 v 0 [] := by
  have h0 : (0 : Int) ≤ n := by omega
  by_cases hp : n = 0
  · subst hp
    go_enter Tryz.func272, Tryz.ntmps272
    go_wp2
    go_ret
    exact ⟨_, rfl, Below.refl _ _, World.ownsRow_nil _ _ _ _⟩
  · have hp' : (0 : Int) < n := by omega
    go_enter Tryz.func272, Tryz.ntmps272
    go_wp2_with (at_builtin; go_loud (refine wpList_append_make_nil rfl _ _ _ _ rfl el_u8 (k := .i64) (by kernel_rfl) rfl (n := n) rfl (by omega) (by omega) ?_))
    intro cap w' hc ho hb
    have hc' : (n : Int) ≤ cap := by omega
    go_wp2
    go_ret
    exact ⟨_, rfl, hb, ho⟩

/-- v is a slice that is not nil, of slices of bytes that read as ls -/
def IsRows (w : World) (v : Value) (ls : List (List UInt8)) : Prop :=
  ∃ x c, v = .slice (some x) ls.length c ∧ ∀ i l, ls[i]? = some l → ∃ u, w.cell? (x.add i) = some u ∧ IsBytes w u l

def cut (ls : List (List UInt8)) (i : Nat) : List UInt8 := (ls.take i).flatten
theorem cut_step {ls : List (List UInt8)} {i : Nat} {l : List UInt8} (h : ls[i]? = some l) : cut ls (i + 1) = cut ls i ++ l := by
  unfold cut
  rw [List.take_add_one, h]; simp
theorem cut_all (ls : List (List UInt8)) : cut ls ls.length = ls.flatten := by unfold cut; rw [List.take_length]
theorem cut_le (ls : List (List UInt8)) (i : Nat) : (cut ls i).length ≤ ls.flatten.length := by
  have h : ls.flatten = cut ls i ++ (ls.drop i).flatten := by unfold cut; rw [← List.flatten_append, List.take_append_drop]
  rw [h, List.length_append]; omega
def CatRel1 (w : World) (ls : List (List UInt8)) (n i : Value) (wr : World) : Prop :=
  ∃ k : Nat, k ≤ ls.length ∧ i = .int .i64 k ∧ n = .int .i64 (cut ls k).length ∧ w = wr
def CatRel2 (w : World) (ls : List (List UInt8)) (v i : Value) (wr : World) : Prop :=
  ∃ k : Nat, k ≤ ls.length ∧ i = .int .i64 k ∧ Below w.heap.size w wr ∧ wr.ownsRow w.heap.size 5 1 v (cut ls k).length ((cut ls k).map bv)

theorem concat_any (v : Value) (ls : List (List UInt8)) (hs : ls.flatten.length ≤ 140737488355328) (hk : ls.length ≤ 64) (w : World) (hv : IsRows w v ls) :
    Calls Tryz.prog 226 #[v] w fun e w' => ∃ v, e = .returned v ∧ Below w.heap.size w w' ∧ w'.ownsRow w.heap.size 5 1 v ls.flatten.length (ls.flatten.map bv) := by
  obtain ⟨x, c, rfl, hv⟩ := hv
  have Hv := Lib.hid hv
  clear hv
  go_enter Tryz.func226, Tryz.ntmps226
  go_wp2
  go_loopw [3, 11] (fun n i wr => CatRel1 w ls n i wr) (fun _ i _ => ls.length - (intOf i).toNat)
  case atStart => exact ⟨0, Nat.zero_le _, rfl, by simp [cut], rfl⟩
  case round =>
    obtain ⟨k, hk', rfl, rfl, rfl⟩ := hrel
    by_cases hlt : k < ls.length
    · obtain ⟨u, hc, hu⟩ := Hv.out k _ (List.getElem?_eq_getElem hlt)
      obtain ⟨a, cap, rfl, h1, h2⟩ := hu.shape
      have hst := Lib.hid (cut_step (List.getElem?_eq_getElem hlt))
      have hle := cut_le ls (k + 1)
      rw [hst.out, List.length_append] at hle
      have hlt' : (k : Int) < ls.length := by omega
      clear hu
      generalize hm : (ls[k]'hlt).length = m at *
      have Hm := Lib.hid hm
      clear hm
      go_wp2
      go_roundw
      case rel => exact ⟨k + 1, hlt, by go_num, by rw [hst.out, List.length_append, Hm.out]; go_num, rfl⟩
      case measure => simp [intOf]; omega
    · obtain rfl : k = ls.length := by omega
      have hn := Lib.hid (cut_all ls)
      rw [hn.out]
      obtain ⟨N, hN⟩ : ∃ N, N = ls.flatten.length := ⟨_, rfl⟩
      rw [← hN] at hs ⊢
      have HN := Lib.hid hN
      clear hN
      have HG := Lib.hid (grow_nil _ hs w)
      go_wp2_with (go_at_call 272; refine HG.out.mono ?_; rintro e w1 ⟨v1, rfl, hb1, ho1⟩)
      have Hb1 := Lib.hid hb1
      have Ho1 := Lib.hid ho1
      clear hb1 ho1
      go_loopw [6, 27] (fun v i w2 => CatRel2 w ls v i w2) (fun _ i _ => ls.length - (intOf i).toNat)
      case atStart => exact ⟨0, Nat.zero_le _, rfl, Hb1.out, by simpa [cut] using Ho1.out⟩
      case round =>
        obtain ⟨k, hk', rfl, hb, ho⟩ := hrel
        by_cases hlt : k < ls.length
        · obtain ⟨u, hc, hu⟩ := Hv.out k _ (List.getElem?_eq_getElem hlt)
          have hst := Lib.hid (cut_step (List.getElem?_eq_getElem hlt))
          have hle := cut_le ls (k + 1)
          rw [hst.out, ← HN.out, List.length_append] at hle
          have hlt' : (k : Int) < ls.length := by omega
          have hc := cell_below hc hb
          have Hsrc := Lib.hid (hu.below hb).src
          have Hb := Lib.hid hb
          have Ho := Lib.hid ho
          clear hu hb ho
          generalize hm : (ls[k]'hlt) = m at *
          clear hm
          have Hle := Lib.hid hle
          clear hle
          go_wp2_with (at_builtin; go_must (refine wpList_append_from rfl _ _ _ rfl (w.heap.size) el_u8 rfl Ho.out rfl Hsrc.out (by have := Hle.out; omega) Hb.out.size ?_); intro v' w' ho' hg' hb')
          go_roundw
          case rel => exact ⟨k + 1, hlt, by go_num, Hb.out.trans hb', by rw [hst.out, List.length_append, List.map_append]; exact ho'⟩
          case measure => simp [intOf]; omega
        · obtain rfl : k = ls.length := by omega
          have Hb := Lib.hid hb
          rw [hn.out, ← HN.out] at ho
          have Ho := Lib.hid ho
          clear hb ho
          go_wp2
          go_ret
          rw [← HN.out]
          exact ⟨_, rfl, Hb.out, Ho.out⟩
end Go.Proofs.YtomblhnchdokmaaGreatDoor

namespace Go.Proofs.YtomblhnchdokmaaGreatDoor
set_option linter.unusedSimpArgs false
set_option linter.unusedVariables false
open Go.RowKit
set_option maxRecDepth 10000
noncomputable section
def growS : Spec := fun args h => match args with
  | [.sc _ (.slice none 0 0), .sc kn (.int .i64 n)] => need kn (decide (0 ≤ n ∧ n ≤ 140737488355328)) 440 (.ok (newVec true [.int .u8] (.l []) 5 h))
  | _ => .bad 441
theorem grow_soundF : SoundF Tryz.prog 272 growS := by
  intro args h K H w0 G E w vals I hr
  unfold growS at H
  split at H
  · rename_i k kn n
    obtain ⟨hc, H2⟩ := need_holds H
    clear H
    obtain ⟨h0, h1⟩ := of_decide_eq_true hc
    obtain ⟨u, r, rfl, hu, v, r', rfl, hv, hr'⟩ := hr
    have hr' : r' = [] := hr'
    subst hr'
    obtain rfl : u = .slice none 0 0 := hu.1
    obtain rfl := rel_int hv
    obtain ⟨m, rfl⟩ := Int.eq_ofNat_of_zero_le h0
    have hl : (D.l []).len = 0 := by simp [D.len, D.toL, D.raw]
    refine (grow_nil m (by omega) w).mono ?_
    rintro e w' ⟨v, rfl, hb, ho⟩
    obtain ⟨E', S, hR⟩ := own_vecE (kn := true) (e := 5) (es := [.int .u8]) (d := .l []) (news := []) I (by kernel_rfl) hb (by rw [hl]; exact ho) (by simp) (by rw [hl, Nat.zero_mul]; exact Nat.zero_le _) (fun i hi => by rw [hl] at hi; omega)
    exact ⟨_, _, v, E', H2, rfl, S, hR⟩
  · exact H.elim
end
end Go.Proofs.YtomblhnchdokmaaGreatDoor

namespace Go.Proofs.YtomblhnchdokmaaGreatDoor
set_option linter.unusedSimpArgs false
set_option linter.unusedVariables false
open Go.RowKit
set_option maxRecDepth 100000
noncomputable section

-- DEFS
/-- a copy in a row of one's own, that may change -/
abbrev opS : List Sh := [.int .i64, .sl [.int .u8]]
def cloneRowS : Spec := fun args h => match args with
  | [.sl kn es d _] => bif Sh.eqsL es opS then brk kn (decide (d.len = 0)) (.ok (.sl true opS (.l []) none, h)) (.ok (.rsl kn h.nx 2 d.len, (newA [.rw opS d] h).2)) else .bad 214
  | [.sc _ (.slice none 0 0)] => .ok (.sl true opS (.l []) none, h)
  | _ => .bad 215
-- END
theorem el_opt : ElemOf Tryz.prog 76 221 2 32 (.agg #[.int .i64 0, .slice none 0 0]) := ⟨by kernel_rfl, ⟨_, rfl, rfl, rfl, rfl⟩, rfl, by decide, by decide⟩
theorem eqlo_nil {w : World} {t e : TypeId} {a : Option Addr} {n c : Nat} (h : Tryz.prog.underlying t = some (.slice e)) : (binOp .eql t (.slice a n c) (.slice none 0 0)).run Tryz.prog w = .ok (.bool a.isNone) w :=
  Lib.run_eql_slice_nil w t e a n c 0 0 h
theorem srcO_alloc {w : World} {size : Nat} {v : Value} {n : Nat} {xs : List Value} (h : SrcOf w size v n xs) (x : Obj) : SrcOf (w.alloc x) size v n xs := h.alloc x
/-- a copy of a row that is not nil -/
theorem clone_opt (ad : Addr) (n cap : Nat) (xs : List Value) (w : World) (hs : SrcOf w 2 (.slice (some ad) n cap) n xs) (hn : n * 32 ≤ 140737488355328) :
    Calls Tryz.prog 304 #[.slice (some ad) n cap] w fun e w' => ∃ v', e = .returned v' ∧ Below w.heap.size w w' ∧ w'.ownsRow w.heap.size 221 2 v' n xs := by
  have hq : ∀ W, (binOp .eql 76 (.slice (some ad) n cap) (.slice none 0 0)).run Tryz.prog W = .ok (.bool false) W := fun W => eqlo_nil el_opt.ht
  have Hsrc := Lib.hid (srcO_alloc hs (.cells #[] 221))
  have Hown := Lib.hid (own_empty w w.heap.size (Nat.le_refl _) 221 2)
  go_enter Tryz.func304, Tryz.ntmps304
  go_wp2_with (at_builtin; go_must (refine wpList_append_from rfl _ _ _ rfl w.heap.size el_opt rfl Hown.out rfl Hsrc.out (by omega) (by simp) ?_); intro v' w' ho hg hb)
  refine bodyPost_ret (v := v') (by simp [results, Tryz.results304, go_sem]) rfl ⟨_, rfl, ((Below.refl _ _).alloc (Nat.le_refl _) _).trans hb, ?_⟩
  simpa using ho
theorem clone_optN (w : World) :
    Calls Tryz.prog 304 #[.slice none 0 0] w fun e w' => e = .returned (.slice none 0 0) ∧ w' = w := by
  have hq : ∀ W, (binOp .eql 76 (.slice none 0 0) (.slice none 0 0)).run Tryz.prog W = .ok (.bool true) W := fun W => eqlo_nil el_opt.ht
  go_enter Tryz.func304, Tryz.ntmps304
  go_wp2
  exact bodyPost_ret (v := .slice none 0 0) (by simp [results, Tryz.results304, go_sem]) rfl ⟨rfl, rfl⟩
theorem lf_empty {Z : Nat → Nat → Option Value} {es : List Sh} {w : World} {base e sz : Nat} {v : Value} {xs : List Value} (h : w.ownsRow base e sz v 0 xs) : LF Z (.sl es) v (.l []) := by
  have h0 : (D.l []).len = 0 := by simp [D.len, D.toL, D.raw]
  rcases h.2 with ⟨rfl, _⟩ | ⟨g, cap, cur, rfl, _, _, _, hcm, _⟩
  · exact ⟨by rw [h0, Nat.zero_mul]; exact Nat.zero_le _, none, 0, by rw [h0], by rw [h0]; exact Nat.le_refl _, Nat.zero_le _, fun _ => rfl, fun hn => absurd h0 hn⟩
  · exact ⟨by rw [h0, Nat.zero_mul]; exact Nat.zero_le _, some ⟨g, 0, none⟩, cap, by rw [h0], by rw [h0]; exact Nat.zero_le _, hcm, (fun h => by cases h), fun hn => absurd h0 hn⟩
theorem cloneRow_soundF : SoundF Tryz.prog 304 cloneRowS := by
  intro args h K H w0 G E w vals I hr
  unfold cloneRowS at H
  split at H
  · rename_i kn es d tip
    cases hes : Sh.eqsL es opS
    · rw [hes] at H; exact H.elim
    rw [hes] at H
    simp only [cond_true] at H
    obtain rfl := Sh.eqsL_eq _ _ hes
    obtain ⟨v, vs', rfl, ⟨hl, _⟩, h3⟩ := hr
    have h3' : vs' = [] := h3
    subst h3'
    obtain ⟨news, hsrc, hnl, hone, hrest⟩ := slice_cells I hl
    obtain ⟨hbd, ad, cap, rfl, h1, h2, h3, h4⟩ := hl
    have hbd' : d.len * 32 ≤ 140737488355328 := by
      have : d.len * 32 ≤ 140737488355328 := hbd
      omega
    rcases brk_holds H with ⟨h0, H⟩ | ⟨h0, H⟩
    · have h0 := of_decide_eq_true h0
      cases ad with
      | none =>
        have hc := h3 rfl
        rw [h0, hc]
        refine (clone_optN w).mono ?_
        rintro e w' ⟨rfl, rfl⟩
        refine ⟨_, h, _, E, H, rfl, Stepd.refl I, ⟨?_, trivial⟩⟩
        have h0' : (D.l []).len = 0 := by simp [D.len, D.toL, D.raw]
        exact ⟨by rw [h0', Nat.zero_mul]; exact Nat.zero_le _, none, 0, by rw [h0'], by rw [h0']; exact Nat.le_refl _, Nat.zero_le _, fun _ => rfl, fun hn => absurd h0' hn⟩
      | some ad =>
        refine (clone_opt ad d.len cap news w hsrc hbd').mono ?_
        rintro e w' ⟨v', rfl, hb, ho⟩
        rw [h0] at ho
        exact ⟨_, h, v', _, H, rfl, I.fresh hb, lf_empty ho, trivial⟩
    · have h0 := of_decide_eq_false h0
      obtain ⟨b, o, ⟨n', c', hv⟩, hel, hz⟩ := hrest h0
      cases ad with
      | none => cases hv
      | some ad =>
        refine (clone_opt ad d.len cap news w hsrc hbd').mono ?_
        rintro e w' ⟨v', rfl, hb, ho⟩
        have hre : ∀ i, i < d.len → RE E.Z opS news.toArray (i * opS.length) (d.get i) 0 := fun i hi => by
          refine el_re hz ?_ (hel i hi)
          have := Nat.mul_le_mul_right opS.length (show i + 1 ≤ d.len by omega)
          rw [Nat.add_mul, Nat.one_mul] at this
          rw [hnl]; omega
        obtain ⟨E', S, hv'⟩ := own_rowE (kn := kn) (es := opS) (d := d) I hb ho h0 hbd hre
        exact ⟨_, _, v', E', H, rfl, S, hv'⟩
  · obtain ⟨v, vs', rfl, ⟨rfl, _⟩, h3⟩ := hr
    have h3' : vs' = [] := h3
    subst h3'
    refine (clone_optN w).mono ?_
    rintro e w' ⟨rfl, rfl⟩
    refine ⟨_, h, _, E, H, rfl, Stepd.refl I, ⟨?_, trivial⟩⟩
    have h0' : (D.l []).len = 0 := by simp [D.len, D.toL, D.raw]
    exact ⟨by rw [h0', Nat.zero_mul]; exact Nat.zero_le _, none, 0, by rw [h0'], by rw [h0']; exact Nat.le_refl _, Nat.zero_le _, fun _ => rfl, fun hn => absurd h0' hn⟩
  · exact H.elim
end
end Go.Proofs.YtomblhnchdokmaaGreatDoor

namespace Go.Proofs.YtomblhnchdokmaaGreatDoor
set_option linter.unusedSimpArgs false
set_option linter.unusedVariables false
open Go.RowKit
set_option maxRecDepth 100000
noncomputable section
abbrev w32 (l : List Int) : AV := .agg (l.map fun n => .sc true (.int .u32 n))
abbrev w8 (l : List Int) : AV := .agg (l.map fun n => .sc true (.int .u8 n))
def shK0 : List AV := [w32 [1779033703, 3144134277, 1013904242, 2773480762, 1359893119, 2600822924, 528734635, 1541459225], w8 [93, 83, 79, 54, 54, 54, 54, 54, 54, 54, 54, 54, 54, 54, 54, 54, 54, 54, 54, 54, 54, 54, 54, 54, 54, 54, 54, 54, 54, 54, 54, 54, 54, 54, 54, 54, 54, 54, 54, 54, 54, 54, 54, 54, 54, 54, 54, 54, 54, 54, 54, 54, 54, 54, 54, 54, 54, 54, 54, 54, 54, 54, 54, 54]]
def shR0 : AV := .agg [.sc true (.int .u32 3463233850), .sc true (.int .u32 1209983353), .sc true (.int .u32 1948250410), .sc true (.int .u32 931006173), .sc true (.int .u32 2786082441), .sc true (.int .u32 1688769380), .sc true (.int .u32 1812149899), .sc true (.int .u32 2195516213)]
def shK1 : List AV := [w32 [3463233850, 1209983353, 1948250410, 931006173, 2786082441, 1688769380, 1812149899, 2195516213], w8 [101, 112, 111, 99, 104, 0, 0, 0, 0, 0, 0, 0, 0, 0, 128, 0, 0, 0, 0, 0, 0, 0, 0, 0, 0, 0, 0, 0, 0, 0, 0, 0, 0, 0, 0, 0, 0, 0, 0, 0, 0, 0, 0, 0, 0, 0, 0, 0, 0, 0, 0, 0, 0, 0, 0, 0, 0, 0, 0, 0, 0, 0, 2, 112]]
def shR1 : AV := .agg [.sc true (.int .u32 2743769701), .sc true (.int .u32 3557861251), .sc true (.int .u32 3830618405), .sc true (.int .u32 1107025316), .sc true (.int .u32 2910933879), .sc true (.int .u32 1703500704), .sc true (.int .u32 1513412588), .sc true (.int .u32 1122659633)]
def shK2 : List AV := [w32 [1779033703, 3144134277, 1013904242, 2773480762, 1359893119, 2600822924, 528734635, 1541459225], w8 [55, 57, 37, 92, 92, 92, 92, 92, 92, 92, 92, 92, 92, 92, 92, 92, 92, 92, 92, 92, 92, 92, 92, 92, 92, 92, 92, 92, 92, 92, 92, 92, 92, 92, 92, 92, 92, 92, 92, 92, 92, 92, 92, 92, 92, 92, 92, 92, 92, 92, 92, 92, 92, 92, 92, 92, 92, 92, 92, 92, 92, 92, 92, 92]]
def shR2 : AV := .agg [.sc true (.int .u32 1038912318), .sc true (.int .u32 2125183980), .sc true (.int .u32 2145836365), .sc true (.int .u32 388479433), .sc true (.int .u32 382557374), .sc true (.int .u32 3463237723), .sc true (.int .u32 1494055132), .sc true (.int .u32 2848212322)]
def shK3 : List AV := [w32 [1038912318, 2125183980, 2145836365, 388479433, 382557374, 3463237723, 1494055132, 2848212322], w8 [163, 138, 154, 101, 212, 16, 167, 131, 228, 82, 153, 37, 65, 251, 221, 164, 173, 129, 83, 119, 101, 137, 91, 160, 90, 52, 215, 236, 66, 234, 109, 49, 128, 0, 0, 0, 0, 0, 0, 0, 0, 0, 0, 0, 0, 0, 0, 0, 0, 0, 0, 0, 0, 0, 0, 0, 0, 0, 0, 0, 0, 0, 3, 0]]
def shR3 : AV := .agg [.sc true (.int .u32 2163272611), .sc true (.int .u32 4034586126), .sc true (.int .u32 1140029431), .sc true (.int .u32 573363619), .sc true (.int .u32 2515814049), .sc true (.int .u32 1452791710), .sc true (.int .u32 3128051758), .sc true (.int .u32 789525186)]
def shK4 : List AV := [w32 [1779033703, 3144134277, 1013904242, 2773480762, 1359893119, 2600822924, 528734635, 1541459225], w8 [182, 198, 221, 149, 198, 76, 208, 56, 117, 197, 65, 193, 20, 26, 227, 149, 163, 194, 112, 151, 96, 161, 225, 168, 140, 68, 126, 24, 25, 57, 4, 244, 54, 54, 54, 54, 54, 54, 54, 54, 54, 54, 54, 54, 54, 54, 54, 54, 54, 54, 54, 54, 54, 54, 54, 54, 54, 54, 54, 54, 54, 54, 54, 54]]
def shR4 : AV := .agg [.sc true (.int .u32 2896751881), .sc true (.int .u32 2204687693), .sc true (.int .u32 2965266935), .sc true (.int .u32 924431850), .sc true (.int .u32 4041008993), .sc true (.int .u32 594331399), .sc true (.int .u32 2013239285), .sc true (.int .u32 3067125608)]
def shK5 : List AV := [w32 [2896751881, 2204687693, 2965266935, 924431850, 4041008993, 594331399, 2013239285, 3067125608], w8 [2, 0, 0, 0, 0, 1, 0, 1, 117, 0, 0, 0, 0, 0, 0, 0, 0, 128, 0, 0, 0, 0, 0, 0, 0, 0, 0, 0, 0, 0, 0, 0, 0, 0, 0, 0, 0, 0, 0, 0, 0, 0, 0, 0, 0, 0, 0, 0, 0, 0, 0, 0, 0, 0, 0, 0, 0, 0, 0, 0, 0, 0, 2, 136]]
def shR5 : AV := .agg [.sc true (.int .u32 1095914947), .sc true (.int .u32 1746682525), .sc true (.int .u32 1193921113), .sc true (.int .u32 709174624), .sc true (.int .u32 3281785983), .sc true (.int .u32 3319253746), .sc true (.int .u32 3401520422), .sc true (.int .u32 3655965500)]
def shK6 : List AV := [w32 [1779033703, 3144134277, 1013904242, 2773480762, 1359893119, 2600822924, 528734635, 1541459225], w8 [220, 172, 183, 255, 172, 38, 186, 82, 31, 175, 43, 171, 126, 112, 137, 255, 201, 168, 26, 253, 10, 203, 139, 194, 230, 46, 20, 114, 115, 83, 110, 158, 92, 92, 92, 92, 92, 92, 92, 92, 92, 92, 92, 92, 92, 92, 92, 92, 92, 92, 92, 92, 92, 92, 92, 92, 92, 92, 92, 92, 92, 92, 92, 92]]
def shR6 : AV := .agg [.sc true (.int .u32 2130283542), .sc true (.int .u32 1889506538), .sc true (.int .u32 1634557580), .sc true (.int .u32 4016216450), .sc true (.int .u32 341203214), .sc true (.int .u32 1879619631), .sc true (.int .u32 3067020439), .sc true (.int .u32 1131316914)]
def shK7 : List AV := [w32 [2130283542, 1889506538, 1634557580, 4016216450, 341203214, 1879619631, 3067020439, 1131316914], w8 [65, 82, 85, 195, 104, 28, 66, 157, 71, 41, 202, 89, 42, 69, 37, 96, 195, 156, 20, 127, 197, 215, 202, 242, 202, 191, 21, 38, 217, 233, 155, 60, 128, 0, 0, 0, 0, 0, 0, 0, 0, 0, 0, 0, 0, 0, 0, 0, 0, 0, 0, 0, 0, 0, 0, 0, 0, 0, 0, 0, 0, 0, 3, 0]]
def shR7 : AV := .agg [.sc true (.int .u32 1971901846), .sc true (.int .u32 4006832195), .sc true (.int .u32 1949621334), .sc true (.int .u32 2759178406), .sc true (.int .u32 1179481010), .sc true (.int .u32 3216739987), .sc true (.int .u32 645307594), .sc true (.int .u32 4187020965)]
end
end Go.Proofs.YtomblhnchdokmaaGreatDoor
