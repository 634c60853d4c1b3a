/- The walk of OctetBack. -/
import Derived.Test.YtmbbcgfcallllaaDoorBackPlain
import Derived.Test.YtmbbcgfcallllaaDoorLawAddresses
import Derived.Test.YtmbbcgfcallllaaDoorLawNumbers
namespace Go.Proofs.YtmbbcgfcallllaaDoor
open Go.RowKit
set_option maxRecDepth 10000

theorem string_of_list {t : ByteArray} {l : List UInt8} (h : l = t.data.toList) : (⟨l.toArray⟩ : ByteArray) = t := by
  subst h
  obtain ⟨⟨x⟩⟩ := t
  rfl
theorem text_back (t : ByteArray) (h : parseE t.data.toList = 0) (W : World) :
    Calls Tryd.prog 22 #[pbV t.data.toList] W fun e w' => e = .returned (.string t) ∧ Below W.heap.size W w' := by
  refine (text_any _ _ _ _ _ _ W).mono ?_
  rintro e w' ⟨rfl, hb⟩
  refine ⟨?_, hb⟩
  have hp : ∃ m, parseOf t.data.toList = some m := by
    unfold parseE at h
    cases hp : parseOf t.data.toList with
    | none => rw [hp] at h; cases h
    | some m => exact ⟨m, rfl⟩
  obtain ⟨m, hp⟩ := hp
  have hm : ∃ b : Nat → UInt8, m = (List.range 6).map b := by
    have h2 := hp
    unfold parseOf at h2
    split at h2
    · cases h2; exact ⟨_, rfl⟩
    · cases h2
  obtain ⟨b, rfl⟩ := hm
  rw [string_of_list]
  refine Eq.trans ?_ (text_parse _ _ hp)
  simp [pb, hp, List.range, List.range.loop]
theorem hex_back (t : ByteArray) (h : unhexE t.data.toList = 0) (ht : t.size ≤ 1000000) (v : Value) (W : World) (hv : IsBytes W v (unhexR t.data.toList)) :
    Calls Tryd.prog 15 #[v] W fun e w' => e = .returned (.string t) ∧ Below W.heap.size W w' := by
  have hp : ∃ m, unhexOf t.data.toList = some m := by
    unfold unhexE at h
    cases hp : unhexOf t.data.toList with
    | none => rw [hp] at h; cases h
    | some m => exact ⟨m, rfl⟩
  obtain ⟨m, hp⟩ := hp
  have hx := hex_unhex _ _ hp
  have hr : unhexR t.data.toList = m := by simp [unhexR, hp]
  rw [hr] at hv
  have hlen : m.length ≤ 1000000 := by
    have := congrArg List.length hx
    rw [hexOf_length, Array.length_toList] at this
    have : 2 * m.length = t.size := this
    omega
  refine (hex_any v m hlen W hv).mono ?_
  rintro e w' ⟨rfl, hb⟩
  exact ⟨by rw [string_of_list hx], hb⟩
/-- what Hex makes of bytes is read as these bytes, in a row of one's own -/
theorem unhex_of_hex (l : List UInt8) (hl : l.length ≤ 2000) (W : World) :
    Calls Tryd.prog 13 #[.string ⟨(hexOf l).toArray⟩] W fun e w' => ∃ v, e = .returned (.tuple #[v, .int .i64 0]) ∧ Below W.heap.size W w' ∧ w'.ownsRow W.heap.size 5 1 v l.length (l.map bv) := by
  refine (unhex_any _ (by show (hexOf l).toArray.size ≤ _; rw [List.size_toArray, hexOf_length]; omega) W).mono ?_
  have h := unhex_hex l
  rintro e w' ⟨hb, ⟨r, v, hp, rfl, ho⟩ | ⟨hp, rfl⟩⟩
  · rw [h] at hp; cases hp
    exact ⟨v, rfl, hb, ho⟩
  · rw [h] at hp; cases hp
theorem parse_of_text (a b c d e f : UInt8) (m : Int) (w : World) (hm : w.cell? ⟨0, 0, none⟩ = some (.int .i64 m)) :
    Calls Tryd.prog 20 #[.string ⟨(textPre [a, b, c, d, e, f] 6).toArray⟩] w fun e' w' => e' = .returned (.tuple #[macV a b c d e f, .int .i64 0]) ∧ Below w.heap.size w w' := by
  refine (parse_any _ (by show (textPre [a, b, c, d, e, f] 6).toArray.size ≤ _; rw [List.size_toArray]; have := textPre_len [a, b, c, d, e, f] 6; omega) m w hm).mono ?_
  have h := parse_text a b c d e f
  rintro e' w' ⟨hb, ⟨m, hp, rfl⟩ | ⟨hp, rfl⟩⟩
  · rw [h] at hp; cases hp
    exact ⟨rfl, hb⟩
  · rw [h] at hp; cases hp
theorem run_neq_mac (w : World) (a b c d e f a1 b1 c1 d1 e1 f1 : Int) :
    (binOp .neq 40 (.agg #[.int .u8 a, .int .u8 b, .int .u8 c, .int .u8 d, .int .u8 e, .int .u8 f]) (.agg #[.int .u8 a1, .int .u8 b1, .int .u8 c1, .int .u8 d1, .int .u8 e1, .int .u8 f1])).run Tryd.prog w = .ok (.bool (!(a == a1 && (b == b1 && (c == c1 && (d == d1 && (e == e1 && f == f1))))))) w := by
  rw [run_neq_struct, run_equalIn_six w 9998 40 5 (by kernel_rfl) (by kernel_rfl) (by kernel_rfl)]
  rfl

theorem wrap_pow (k : Nat) (h : k ≤ 7) : IntKind.u64.wrap (2 ^ (8 * k)) = ((256 ^ k : Nat) : Int) := by
  rcases (by omega : k = 0 ∨ k = 1 ∨ k = 2 ∨ k = 3 ∨ k = 4 ∨ k = 5 ∨ k = 6 ∨ k = 7) with rfl | rfl | rfl | rfl | rfl | rfl | rfl | rfl <;> decide

theorem put_at (N S : Int) (n k : Nat) (hN : N = n) (hS : S = k) (hn : n < 18446744073709551616) (h1 : 1 ≤ k) (h8 : k ≤ 8) (w : World) :
    Calls Tryd.prog 12 #[.int .u64 N, .int .i64 S] w fun e w' => ∃ v, e = .returned v ∧ Below w.heap.size w w' ∧ w'.ownsRow w.heap.size 5 1 v k ((be n k).map bv) := by
  subst hN hS
  exact put_any n hn k h1 h8 w
theorem take_at (v : Value) (l : List UInt8) (S : Int) (k : Nat) (hS : S = k) (h1 : 1 ≤ k) (h8 : k ≤ 8) (hs : k ≤ l.length) (hlen : l.length ≤ 1000000) (w : World) (hv : IsBytes w v l) :
    Calls Tryd.prog 17 #[v, .int .i64 S] w fun e w' => ∃ v', e = .returned (.tuple #[.int .u64 (valOf (l.take k) : Nat), v', .bool true]) ∧ Below w.heap.size w w' ∧ w'.ownsRow w.heap.size 5 1 v' (l.length - k) ((l.drop k).map bv) := by
  subst hS
  exact take_any v l k h1 h8 hs hlen w hv

theorem own_base {w : World} {base b2 : Nat} {e : TypeId} {size : Nat} {v : Value} {n : Nat} {xs : List Value} (h : w.ownsRow base e size v n xs) (hb : b2 ≤ base) : w.ownsRow b2 e size v n xs := by
  refine ⟨h.1, ?_⟩
  rcases h.2 with h | ⟨g, cap, cur, hv, hg, r⟩
  · exact .inl h
  · exact .inr ⟨g, cap, cur, hv, Nat.le_trans hb hg, r⟩

def FlipRel (W : World) (base : Nat) (r : Value) (n : Nat) (i : Value) (wr : World) : Prop :=
  ∃ (k : Nat) (zs : List UInt8), k ≤ n ∧ i = .int .i64 k ∧ zs.length = n ∧ wr.ownsRow base 5 1 r n (zs.map bv) ∧ W.grownBy wr r.ownBlock
theorem FlipRel.step {W wr : World} {base n g cap k : Nat} {zs : List UInt8} (hk : k < n) (hz : zs.length = n) (ho : wr.ownsRow base 5 1 (.slice (some ⟨g, 0, none⟩) n cap) n (zs.map bv)) (hg : W.grownBy wr (Value.slice (some ⟨g, 0, none⟩) n cap).ownBlock) :
    FlipRel W base (.slice (some ⟨g, 0, none⟩) n cap) n (.int .i64 ((k : Int) + 1)) (wr.setCell ⟨g, k, none⟩ (.int .u8 (bits .xor .u8 ((zs[k]?.getD 0).toNat : Int) 255))) := by
  refine ⟨k + 1, zs.set k (zs[k]?.getD 0 ^^^ 255), hk, by simp, by simpa using hz, ?_, grown_setCell hg k _⟩
  have := own_set ho k (bv (zs[k]?.getD 0 ^^^ 255))
  rw [← List.map_set] at this
  have e : bits .xor .u8 ((zs[k]?.getD 0).toNat : Int) 255 = ((zs[k]?.getD 0 ^^^ 255).toNat : Int) := u8_xor_u _ 255
  rw [e]
  exact this

set_option maxHeartbeats 2000000 in
theorem lawBack (n : Nat) (hn : n < 18446744073709551616) (z : UInt8) (v : Value) (l : List UInt8) (a b c d e f : UInt8) (s : ByteArray) (m : Int) (w : World) (hv : IsBytes w v l) (hs : s.size ≤ 9223372036854775807) (hm : w.cell? ⟨0, 0, none⟩ = some (.int .i64 m)) :
    Calls Tryd.prog 8 #[.int .u64 n, .int .u8 z.toNat, v, macV a b c d e f, .string s] w fun e w' => e = .returned (.bool true) ∧ Below w.heap.size w w' := by
  have hal := (Below.refl w.heap.size w).alloc (Nat.le_refl _) (.cells #[bv a, bv b, bv c, bv d, bv e, bv f] 40)
  have Hcut := Lib.hid (fun n => cut_val ((w.alloc (.cells #[bv a, bv b, bv c, bv d, bv e, bv f] 40)).drewN n) v l (hv.below (below_drewN' hal n)))
  have Hu := Lib.hid (isBytes_cut hv)
  have Hm := Lib.hid hm
  have Hsz := Lib.hid (show (s.extract 0 (min (s.size : Int) 100).toNat).size ≤ 100 from size_cut_str s 100)
  have hL : (l.take 2000).length ≤ 2000 := by rw [List.length_take]; omega
  have HM0 : Hid (MacAt (w.alloc (.cells #[bv a, bv b, bv c, bv d, bv e, bv f] 40)) w.heap.size a b c d e f) := heap_alloc_new w _
  clear hv hm hal
  generalize cutVal v = u at *
  generalize l.take 2000 = L at *
  have hz := u8_lt z
  generalize z.toNat = Z at *
  go_enter Tryd.func8, Tryd.ntmps8
  go_wp2
  go_quiet ((go_at_call 9; exact Calls.quiet_of_same (Hcut.out _)))
  generalize s.extract 0 (min (s.size : Int) 100).toNat = t at *
  have Hb0 := Lib.hid (below_drewN' ((Below.refl w.heap.size w).alloc (Nat.le_refl _) (.cells #[bv a, bv b, bv c, bv d, bv e, bv f] 40)) nq)
  have HM : Hid (MacAt ((w.alloc (.cells #[bv a, bv b, bv c, bv d, bv e, bv f] 40)).drewN nq) w.heap.size a b c d e f) := HM0.out
  obtain ⟨K, hK⟩ : ∃ K : Nat, K = Z % 8 + 1 := ⟨_, rfl⟩
  have hcase : (∃ n' : Nat, n' = n ∧ decide ((Z : Int) % 8 + 1 < 8) = false ∧ n' < 256 ^ K) ∨
      (∃ (n' M : Nat), (n : Int) % (M : Int) = (n' : Int) ∧ decide ((Z : Int) % 8 + 1 < 8) = true ∧ 0 < M ∧ IntKind.u64.wrap (2 ^ (8 * (Z % 8 + 1))) = (M : Int) ∧ n' < 256 ^ K) := by
    by_cases h8 : Z % 8 = 7
    · refine .inl ⟨n, rfl, by rw [decide_eq_false_iff_not]; omega, ?_⟩
      rw [hK, h8]
      exact hn
    · refine .inr ⟨n % 256 ^ K, 256 ^ K, by simp, by rw [decide_eq_true_eq]; omega, Nat.pow_pos (by decide), by rw [hK]; exact wrap_pow (Z % 8 + 1) (by omega), Nat.mod_lt _ (Nat.pow_pos (by decide))⟩
  have hK1 : 1 ≤ K := by omega
  have hK8 : K ≤ 8 := by omega
  have HS : Hid ((Z : Int) % 8 + 1 = (K : Int)) := by unfold Hid; omega
  clear hK HM0
  have hX := Lib.hid (fun n' (h : n' < 256 ^ K) => valOf_be K n' h)
  have hpK : 256 ^ K ≤ 256 ^ 8 := Nat.pow_le_pow_right (by decide) hK8
  rcases hcase with ⟨n', rfl, hlt, hn'⟩ | ⟨n', M, hN, hlt, hM0, hw, hn'⟩
  all_goals
    have hn64 : n' < 18446744073709551616 := Nat.lt_of_lt_of_le hn' hpK
    have HV := Lib.hid (valOf_be K n' hn')
    clear hn' hpK
    have hc4 : Hid ((K + L.length) * 1 ≤ 140737488355328) := by unfold Hid; omega
    have hlen1 : Hid ((be n' K ++ L).length ≤ 1000000) := by unfold Hid; rw [List.length_append]; simp [be]; omega
    have hlen2 : Hid (K ≤ (be n' K ++ L).length) := by unfold Hid; rw [List.length_append]; simp [be]
    have htake : Hid ((be n' K ++ L).take K = be n' K) := by
      unfold Hid; have : (be n' K).length = K := by simp [be]
      rw [List.take_append_of_le_length (by omega), List.take_of_length_le (by omega)]
    have hdrop : Hid ((be n' K ++ L).drop K = L) := by
      unfold Hid; have : (be n' K).length = K := by simp [be]
      rw [List.drop_append_of_le_length (by omega), List.drop_of_length_le (by omega), List.nil_append]
    have hdl : Hid ((be n' K ++ L).length - K = L.length) := by unfold Hid; rw [List.length_append]; simp [be]
    have Hu0 := Lib.hid (Hu.out.below Hb0.out)
    have Hm0 := Lib.hid (cell_below Hm.out Hb0.out)
    have hq := run_neq_mac
    go_wp2_with (first
      | (go_at_call 12; refine (put_at _ _ n' K rfl HS.out hn64 hK1 hK8 _).mono ?_; rintro e1 w1 ⟨p, rfl, hb1, ho1⟩; have Hb1 := Lib.hid hb1; have Ho1 := Lib.hid ho1; clear ho1 hb1)
      | (at_builtin; refine wpList_append_from (by rfl) _ _ _ (by rfl) _ el_u8 (by rfl) Ho1.out (by rfl) (IsBytes.src (Hu0.out.below Hb1.out)) hc4.out Hb1.out.size ?_; intro p2 w2 ho2 hg2 hb2; have Hb2 := Lib.hid (Hb1.out.trans hb2); rw [← List.map_append] at ho2; have Hp2 := Lib.hid (own_bytes ho2); clear ho2 hg2 hb2)
      | (go_at_call 17; refine (take_at _ _ _ K HS.out hK1 hK8 hlen2.out hlen1.out _ Hp2.out).mono ?_; rintro e3 w3 ⟨r, rfl, hb3, ho3⟩; rw [htake.out, HV.out]; rw [hdrop.out, hdl.out] at ho3; have Ho3 := Lib.hid ho3; have Hb3 := Lib.hid (below_next hb3 Hb2.out); have Hrl := Lib.hid (World.ownsRow.lt Ho3.out); have Hs2 := Lib.hid Hb2.out.size; clear ho3 hb3)
      | (go_at_call 15; refine (hex_any _ L (by omega) _ (Hu0.out.below Hb3.out)).mono ?_; rintro e4 w4 ⟨rfl, hb4⟩; have Hb4 := Lib.hid (below_next hb4 Hb3.out); have Ho4 := Lib.hid (own_below Ho3.out hb4); have Hs34 := Lib.hid hb4.size; clear hb4)
      | (go_at_call 13; refine (unhex_of_hex L hL _).mono ?_; rintro e5 w5 ⟨b5, rfl, hb5, ho5⟩; have Hb5 := Lib.hid (below_next hb5 Hb4.out); have Hr5 := Lib.hid (own_below Ho4.out hb5); have Ho5 := Lib.hid ho5; have Hbl := Lib.hid (World.ownsRow.lt ho5); have HM5 := six_cells (HM.out.below Hb5.out); clear hb5 ho5)
      | (go_at_call 22; refine (text_any a b c d e f _).mono ?_; rintro e6 w6 ⟨rfl, hb6⟩; have Hb6 := Lib.hid (below_next hb6 Hb5.out); have Hr6 := Lib.hid (own_below Hr5.out hb6); have Ho6 := Lib.hid (own_below Ho5.out hb6); clear hb6 HM5)
      | (go_at_call 20; refine (parse_of_text a b c d e f m _ (cell_below Hm0.out Hb6.out)).mono ?_; rintro e7 w7 ⟨rfl, hb7⟩; have Hb7 := Lib.hid (below_next hb7 Hb6.out); have Hr7 := Lib.hid (own_below Hr6.out hb7); have Ho7 := Lib.hid (own_below Ho6.out hb7); have hal7 := fun o => (Below.refl w7.heap.size w7).alloc (Nat.le_refl _) o; have hcr := fun o => conv_later (own_bytes Hr7.out) (hal7 o); have hcb := fun o => conv_later (own_bytes Ho7.out) (hal7 o); have hcu := fun o => conv_later Hu0.out (below_next (hal7 o) Hb7.out); have hm7 := fun o => six_cells (HM.out.below (below_next (hal7 o) Hb7.out)); clear hb7 hal7)
      | fail)
    clear hcr hcb hcu hm7 hlt hq
    have Hr8 := Lib.hid (World.ownsRow.alloc Hr7.out (.cells #[bv a, bv b, bv c, bv d, bv e, bv f] 40))
    have Ho8 := Lib.hid (World.ownsRow.alloc Ho7.out (.cells #[bv a, bv b, bv c, bv d, bv e, bv f] 40))
    have Hb8 := Lib.hid (below_next ((Below.refl w7.heap.size w7).alloc (Nat.le_refl _) (.cells #[bv a, bv b, bv c, bv d, bv e, bv f] 40)) Hb7.out)
    obtain ⟨ra, rcap, rfl, -, -⟩ := (own_bytes Hr8.out).shape
    go_loopw [19] (fun i wr => FlipRel (w7.alloc (.cells #[bv a, bv b, bv c, bv d, bv e, bv f] 40)) w2.heap.size (.slice ra L.length rcap) L.length i wr) (fun i _ => L.length - (intOf i).toNat)
    case atStart => exact ⟨0, L, by omega, rfl, rfl, Hr8.out, World.grownBy.refl _ _⟩
    case round =>
      obtain ⟨k, zs, hk, rfl, hzl, ho, hg⟩ := hrel
      have Ho := Lib.hid ho
      have Hg := Lib.hid hg
      have Hzl := Lib.hid hzl
      clear ho hg hzl
      by_cases hlt : k < L.length
      · obtain ⟨g, hga⟩ : ∃ g, ra = some ⟨g, 0, none⟩ := by
          rcases Ho.out.2 with ⟨h, h0⟩ | ⟨g, cap, cur, hv, _⟩
          · omega
          · cases hv; exact ⟨g, rfl⟩
        subst hga
        have hzk : (zs.map bv)[k]? = some (bv (zs[k]?.getD 0)) := by
          rw [List.getElem?_map, List.getElem?_eq_getElem (by rw [Hzl.out]; exact hlt)]; rfl
        have hcell := own_cell Ho.out k _ hzk
        have hfrz := own_frozen Ho.out k
        have Hstep := Lib.hid (FlipRel.step hlt Hzl.out Ho.out Hg.out)
        generalize zs[k]?.getD 0 = zk at *
        go_wp2
        exact ⟨Hstep.out, by simp [intOf]; omega⟩
      · have HbR := Lib.hid (Hb8.out.grown Hg.out Hb8.out.size (fun k hk => Nat.le_trans Hs2.out (Hrl.out k hk).1))
        have HoR : Hid (wr.ownsRow w4.heap.size 5 1 b5 L.length (L.map bv)) := by
          refine Ho8.out.kept Hg.out ?_
          by_cases hbn : b5.ownBlock = none
          · exact .inl hbn
          · refine .inr fun he => ?_
            obtain ⟨kb, hkb⟩ := Option.ne_none_iff_exists'.1 hbn
            have h1 := Hbl.out kb hkb
            have h2 := Hrl.out kb (he ▸ hkb)
            have := Hs34.out
            omega
        have Ht1 : Hid (t.size ≤ 1000000) := by have := Hsz.out; unfold Hid; omega
        have hP : parseE t.data.toList = 0 ∨ parseE t.data.toList = 10 := by unfold parseE; split <;> simp
        have hU : unhexE t.data.toList = 0 ∨ unhexE t.data.toList = 10 := by unfold unhexE; split <;> simp
        clear Hg Ho Hzl
        rcases hP with hP | hP <;> rcases hU with hU | hU
        all_goals
          have HP := Lib.hid (parse_all t Ht1.out m wr (cell_below Hm0.out HbR.out))
          have HU := Lib.hid (fun W => unhex_all t Ht1.out W)
          rw [hP] at HP
          rw [hU] at HU
          have HTB := Lib.hid (text_back t)
          have HHB := Lib.hid (hex_back t)
          rw [hP] at HTB
          rw [hU] at HHB
          clear hP hU
          go_wp2_with (first
            | (go_at_call 20; refine HP.out.mono ?_; rintro e8 w8 ⟨rfl, hb8⟩; have HbA := Lib.hid (below_next hb8 HbR.out); have HoA := Lib.hid (own_below HoR.out hb8); clear hb8)
            | (go_at_call 13; go_must ((refine (HU.out _).mono ?_; rintro e9 w9 ⟨y9, rfl, hb9, hy9⟩; have HyZ := Lib.hid hy9; have hal8 := (Below.refl w8.heap.size w8).alloc (Nat.le_refl _) (.cells #[bv (pb t.data.toList 0), bv (pb t.data.toList 1), bv (pb t.data.toList 2), bv (pb t.data.toList 3), bv (pb t.data.toList 4), bv (pb t.data.toList 5)] 40); have HbZ := Lib.hid (below_next hb9 (below_next hal8 HbA.out)); have hcb := conv_later (own_bytes (own_below (own_below HoA.out hal8) hb9)) (Below.refl _ _); have hcu := conv_later Hu0.out HbZ.out; have hmm : MacAt (w8.alloc (.cells #[bv (pb t.data.toList 0), bv (pb t.data.toList 1), bv (pb t.data.toList 2), bv (pb t.data.toList 3), bv (pb t.data.toList 4), bv (pb t.data.toList 5)] 40)) w8.heap.size _ _ _ _ _ _ := heap_alloc_new w8 _; have hm9 := six_cells (hmm.below hb9); clear hb9 hal8 hmm)))
            | (go_at_call 22; go_must ((refine (HTB.out (by simp) _).mono ?_; rintro e10 wA ⟨rfl, hbA⟩; have HyZ := Lib.hid (IsBytes.below HyZ.out hbA); have HbZ := Lib.hid (below_next hbA HbZ.out); clear hbA)))
            | (go_at_call 15; go_must ((refine (HHB.out (by simp) Ht1.out _ _ HyZ.out).mono ?_; rintro e11 wB ⟨rfl, hbB⟩; have HbZ := Lib.hid (below_next hbB HbZ.out); clear hbB)))
            | (go_at_call 11; go_must ((refine (awake_true m _ (cell_below Hm0.out HbZ.out)).mono ?_; rintro e12 wC ⟨rfl, hbC⟩; have HbZ := Lib.hid (below_next hbC HbZ.out); clear hbC)))
            | fail)
          go_ret
          exact ⟨rfl, Hb0.out.trans (HbZ.out.mono Hb0.out.size)⟩
end Go.Proofs.YtmbbcgfcallllaaDoor
