import Derived.Test.YtlahcmldbgeifaaPutAll
import Derived.Test.YtlahcmldbgeifaaStr
import Derived.Test.YtlahcmldbgeifaaPlainJoin
import Derived.Deep.RegionHeld3
import Derived.Deep.Heap
/- BitsOwn: what is told is the own of the caller; no condition. -/
namespace Go.Proofs.Ytlahcmldbgeifaa.bitsOwn
open Go.RowKit
set_option linter.unusedVariables false
def notN (x : Nat) : Nat := x ^^^ 255
def notTo (l : List Nat) (k : Nat) : List Nat := (l.take k).map notN ++ l.drop k
theorem notTo_length (l : List Nat) (k : Nat) : (notTo l k).length = l.length := by
  unfold notTo; rw [List.length_append, List.length_map, List.length_take, List.length_drop]; omega
theorem notTo_get (l : List Nat) (k : Nat) (h : k < l.length) : (notTo l k)[k]? = some l[k] := by
  unfold notTo
  rw [List.getElem?_append_right (by rw [List.length_map, List.length_take]; omega), List.length_map, List.length_take, show k - min k l.length = 0 by omega, List.getElem?_drop, Nat.add_zero, List.getElem?_eq_getElem h]
theorem notTo_set (l : List Nat) (k : Nat) (h : k < l.length) : (notTo l k).set k (notN l[k]) = notTo l (k + 1) := by
  unfold notTo
  rw [List.drop_eq_getElem_cons h, take_snoc' l k h, List.map_append, List.set_append_right (h := by rw [List.length_map, List.length_take]; omega)]
  rw [List.length_map, List.length_take, show k - min k l.length = 0 by omega, List.set_cons_zero, List.append_assoc]
  rfl
theorem notTo_all (l : List Nat) : notTo l l.length = l.map notN := by simp [notTo]
theorem not_val (x : Nat) (h : x < 256) : bits .xor .u8 (x : Int) 255 = ((notN x : Nat) : Int) ∧ notN x < 256 := by
  have : ∀ y : Fin 256, bits .xor .u8 (y.val : Int) 255 = ((notN y.val : Nat) : Int) ∧ notN y.val < 256 := by decide +kernel
  exact this ⟨x, h⟩
theorem set_nats (l : List Nat) (j x : Nat) : (nats .u8 l).set j (.int .u8 ((x : Nat) : Int)) = nats .u8 (l.set j x) := by
  simp only [nats, List.map_set]
set_option maxRecDepth 100000 in
set_option maxHeartbeats 4000000 in
theorem walk (A : Option Addr) (n c : Nat) (A1 : Option Addr) (n1 c1 : Nat) (z1 : List Int) (w : World) (w0 : IsRows [.int .u64, .int .i64] w A n c) (w1 : IsRow .u8 w A1 n1 c1 z1) :
    Calls Try.prog 12 #[.slice A n c, .slice A1 n1 c1] w fun e w' => e = .returned (.bool true) ∧ Below w.heap.size w w' := by
  obtain ⟨rows, hrows, hok, hnc, hcm⟩ := w0.rds (by simp)
  obtain ⟨hs, hnc1, hcm1, hlen1, hwf1⟩ := w1.rd
  rw [ints_nats fun k hk => (wf_u8 (hwf1 k hk)).1] at hs
  clear w0 w1 hwf1 hlen1
  generalize (z1.take n1).map Int.toNat = l1 at *
  unfold maxLen at hcm
  go_enter Try.func12, Try.ntmps12
  go_wp2_with fail
  refine (begun_any _).mono ?_
  rintro e w1 ⟨rfl, hb1⟩
  have ho := isOut_new w1 w.heap.size hb1.size
  have hb2 := hb1.alloc hb1.size (.cells #[.slice none 0 0, .int .i64 0] 34)
  have hgw := hb1.size
  go_wp2_with fail
  generalize w1.alloc (.cells #[.slice none 0 0, .int .i64 0] 34) = w2 at *
  generalize w1.heap.size = g at *
  clear hb1
  go_loopw [7] (fun i wr => ∃ (k : Nat) (r : Option Nat) (l : List Bool), k ≤ n ∧ k ≤ 10 ∧ i = .int .i64 k ∧ IsOut wr w.heap.size g r l ∧ l.length ≤ 64 * k ∧ Below w.heap.size w wr) (fun i _ => 10 - (intOf i).toNat)
  case atStart => exact ⟨0, none, [], by omega, by omega, rfl, ho, by simp, hb2⟩
  case round =>
    obtain ⟨k, r, l, hk, hk10, rfl, ho2, hl, hbk⟩ := hrel
    clear ho hb2
    by_cases hlt : k < n ∧ k < 10
    · obtain ⟨hlt, hlt2⟩ := hlt
      have i1 : (k : Int) < (n : Int) := by omega
      have i2 : (k : Int) < 10 := by omega
      obtain ⟨b, o, u, W, rfl, hbw, hu, hW, -, f0, f1⟩ := field_at hrows hok hlt
      have g0 := (hbk.cell (p := ⟨b, o + (k * 2 + 0), none⟩) hbw).trans f0
      have g1 := (hbk.cell (p := ⟨b, o + (k * 2 + 1), none⟩) hbw).trans f1
      rw [Nat.add_zero] at g0
      rw [← Nat.add_assoc] at g1
      have hU := Lib.hid hu
      clear f0 f1 hu
      have hbs := hbk.size
      go_wp2_with fail
      go_region_held3 (fun w' => w'.cell? ⟨b, o + k * 2, none⟩ = some (.int .u64 (u : Int)) ∧ w'.cell? ⟨b, o + k * 2 + 1, none⟩ = some (.int .i64 W)) (first | exact ⟨g0, g1⟩ | exact ⟨g3, g4⟩)
        (first
          | (go_at_call 26; refine (put_all w.heap.size g r l u W wr.drew ho2 (by omega) hbs).mono ?_; rintro e w3 ⟨rfl, r3, ho3, hr3, hk3⟩; have hb3 := (below_drewN hbk 1).trans (hk3.below hbs (by rintro i (h | h); (have := ho2.base; omega); exact ho2.owner i h.symm)); have g3 := (hb3.cell (p := ⟨b, o + k * 2, none⟩) hbw).trans (((hbk.cell (p := ⟨b, o + k * 2, none⟩) hbw).symm).trans g0); have g4 := (hb3.cell (p := ⟨b, o + k * 2 + 1, none⟩) hbw).trans (((hbk.cell (p := ⟨b, o + k * 2 + 1, none⟩) hbw).symm).trans g1)))
      have hl3 : (if okB u W then l ++ bitsL u W.toNat else l).length ≤ 64 * (k + 1) := by
        cases hk2 : okB u W with
        | false => simp; omega
        | true =>
          simp only [if_true, List.length_append, bitsL_length]
          have hW64 : W ≤ 64 := by
            unfold okB at hk2
            simp at hk2
            omega
          omega
      generalize (if okB u W then l ++ bitsL u W.toNat else l) = l3 at *
      clear g0 g1 g3 g4 ho2 hk3 hr3 hbk
      go_wp2_with fail
      go_roundw
      case rel => exact ⟨k + 1, r3, l3, by omega, by omega, by go_num, ho3, hl3, hb3⟩
      case measure => simp [intOf]; omega
    · have hcase : (n : Int) ≤ (k : Int) ∨ ((k : Int) < (n : Int) ∧ (10 : Int) ≤ (k : Int)) := by omega
      have hl640 : l.length ≤ 640 := by omega
      clear hlt hl hrows hok
      rcases hcase with h | ⟨h, h'⟩
      all_goals
        go_wp2_with fail
        refine (outbytes_any _ g r l _ ho2 (by omega)).mono ?_
        have hbl := bytesN_lt l
        have hbn := bytesN_len l
        generalize hm : (l.length + 7) / 8 = m at *
        have hm81 : m ≤ 81 := by omega
        rintro e w3 ⟨v3, rfl, hown3, hb3⟩
        have hg1 := ho2.blk
        have hg2 := ho2.lt
        have ho3 := ho2.keep (Keep.of_new (S := fun _ => False) hb3) (fun h => h) (fun _ _ h => h)
        replace hb3 := hbk.trans (hb3.mono hbk.size)
        generalize hbb : bytesN l = bb at *
        have HBB := Lib.hid hbb
        have HM := Lib.hid hm
        obtain ⟨A3, c3, rfl, hc31, hc32⟩ := own_slice hown3
        generalize hbase : wr.heap.size = base at *
        have hbw : w.heap.size ≤ base := by rw [← hbase]; exact hbk.size
        clear ho2 hbk hm hbase hbb
        go_wp2_with fail
        go_loopw [9, 44] (fun _ i wx => ∃ j : Nat, j ≤ m ∧ i = .int .i64 j ∧ wx.ownsRow base 5 1 (.slice A3 m c3) m (nats .u8 (notTo bb j)) ∧ IsOut wx w.heap.size g r l ∧ Below w.heap.size w wx) (fun _ i _ => m - (intOf i).toNat)
        case atStart => exact ⟨0, by omega, rfl, by simpa [notTo] using hown3, ho3, hb3⟩
        case round =>
          obtain ⟨j, hj, rfl, hown4, ho4, hb4⟩ := hrel
          clear hown3 ho3 hb3
          by_cases hjm : j < m
          · have hjm' : (j : Int) < (m : Int) := by omega
            obtain ⟨gx, cx, hAx, gx1, gx2, gx3, gx4⟩ := own_form hown4 (by omega)
            cases hAx
            have hget := notTo_get bb j (by omega)
            have hset := notTo_set bb j (by omega)
            obtain ⟨nv1, nv2⟩ := not_val (bb[j]'(by omega)) (hbl _ (List.getElem_mem _))
            generalize bb[j]'(by omega) = x at *
            have hcell : wr.cell? ⟨gx, j, none⟩ = some (.int .u8 (x : Int)) := by
              rw [hown4.cellAt j (by omega), nats, List.getElem?_map, hget]; rfl
            have hfr := hown4.frozenAt j
            have HS := Lib.hid (And.intro hget hset)
            clear hget hset
            go_wp2_with fail
            have hst := (hown4.stored j (.int .u8 ((notN x : Nat) : Int))).1
            rw [set_nats _ j (notN x), HS.out.2] at hst
            have ho5 := ho4.keep ((Keep.refl (fun k => k = gx) wr).setCell (p := ⟨gx, j, none⟩) (.inl rfl) (.int .u8 ((notN x : Nat) : Int))) (by omega) (fun k hk h => by have := hg2 k hk; omega)
            exact ⟨⟨j + 1, by omega, by go_num, hst, ho5, hb4.setCell (p := ⟨gx, j, none⟩) (by show w.heap.size ≤ gx; omega) _⟩, by simp [intOf]; omega⟩
          · obtain rfl : j = m := by omega
            have hdd : decide ((j : Int) < (j : Int)) = false := by simp
            have hrd4 := Rd.of_own hown4
            have hnot : notTo bb j = bb.map notN := by rw [← hbn, notTo_all]
            rw [hnot] at hrd4
            clear hown4 hnot
            go_wp2_with fail
            refine (outbytes_any _ g r l _ ho4 (by omega)).mono ?_
            rw [HBB.out, HM.out]
            rintro e w6 ⟨v6, rfl, hown6, hb6⟩
            obtain ⟨A6, c6, rfl, hc61, hc62⟩ := own_slice hown6
            have hrd6 := Rd.of_own hown6
            have hrd5 := (hrd4.below hb6 (Nat.le_refl _))
            have hb7 := hb4.trans (hb6.mono hb4.size)
            clear hown6 hb6 hrd4 hb4 ho4
            go_wp2_with fail
            go_loopw [11, 58] (fun _ i wx => ∃ p nd : Nat, p ≤ j ∧ i = .int .i64 p ∧ wx = w6.drewN nd) (fun _ i _ => j - (intOf i).toNat)
            case atStart => exact ⟨0, 0, by omega, rfl, rfl⟩
            case round =>
              obtain ⟨p, nd, hp, rfl, rfl⟩ := hrel
              by_cases hpj : p < j
              · have hpj' : (p : Int) < (j : Int) := by omega
                have hpl : p < bb.length := by omega
                obtain ⟨bx, ox, rfl, -, hcx⟩ := hrd5.at_ hpj
                obtain ⟨by', oy, rfl, -, hcy⟩ := hrd6.at_ hpj
                obtain ⟨nv1, nv2⟩ := not_val (bb[p]) (hbl _ (List.getElem_mem _))
                rw [nats_at _ bb p hpl] at hcy
                rw [nats_at _ (bb.map notN) p (by rw [List.length_map]; exact hpl), List.getElem_map] at hcx
                generalize bb[p] = x at *
                generalize notN x = y at *
                clear hpl
                have p0 : 0 ≤ (p : Int) := by omega
                go_wp2_with fail
                go_quiet (fail)
                go_wp2_with fail
                go_roundw
                case rel => exact ⟨p + 1, _, by omega, by go_num, rfl⟩
                case measure => simp [intOf]; omega
              · obtain rfl : p = j := by omega
                have hdd2 : decide ((p : Int) < (p : Int)) = false := by simp
                have hs2 := (hs.below hb7 (Nat.le_refl _)).drewN nd
                have hb8 := below_drewN hb7 nd
                generalize w6.drewN nd = w7 at *
                clear hrd5 hrd6
                go_wp2_with fail
                refine (short_any A1 n1 c1 _ l1 20 _ hs2 hnc1 hcm1 (by omega) (by omega)).mono ?_
                rintro e w8 ⟨v8, rfl, hown8, hb9⟩
                obtain ⟨A8, c8, rfl, hc81, hc82⟩ := own_slice hown8
                rw [show (20 : Int).toNat = 20 from rfl] at *
                have hrd8 := Rd.of_own hown8
                have hln : (l1.take 20).length = min n1 20 := by have := hrd8.1; rwa [nats_length] at this
                have hb10 := hb8.trans (hb9.mono hb8.size)
                have hq20 : min n1 20 ≤ 20 := by omega
                generalize min n1 20 = q at *
                clear hb9 hown8 hs2 hb8 hb7
                go_wp2_with fail
                refine (read_any A8 q c8 _ _ _ hrd8 (Nat.le_refl _)).mono ?_
                rintro e w9 ⟨rfl, hin, hb11⟩
                have hb12 := hb10.trans (hb11.mono hb10.size)
                go_wp2_with fail
                refine (left_any _ _ _ 0 _ hin (by omega) (by omega)).mono ?_
                rw [hln, show (8 * (q : Int) - ((0 : Nat) : Int)) = 8 * (q : Int) by omega]
                rintro e w10 ⟨rfl, n10, rfl⟩
                go_wp2_with fail
                go_ret
                exact ⟨rfl, below_drewN hb12 _⟩
end Go.Proofs.Ytlahcmldbgeifaa.bitsOwn
