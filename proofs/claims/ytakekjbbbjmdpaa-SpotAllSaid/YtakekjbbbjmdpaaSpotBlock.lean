import Derived.Test.YtakekjbbbjmdpaaSpotBool
import Derived.Test.YtakekjbbbjmdpaaSpotIn
/- SpotBlock: those of one block are those of all that are of it, in their order; no condition. -/
namespace Go.Proofs.Ytakekjbbbjmdpaa.spotBlock
open Go.RowKit
set_option linter.unusedVariables false
theorem Spot.wf {w : World} {T : TypeId} {g b n : Nat} {f : List (Ad × Value)} (h : Spot w T g b n f) : ∀ x ∈ sortA (f.map (·.1)), x.wf := by
  obtain ⟨-, D, -, hR⟩ := h
  intro x hx
  unfold sortA at hx
  rw [List.mem_mergeSort] at hx
  obtain ⟨p, hp, rfl⟩ := List.mem_map.1 hx
  exact hR.wf p hp
theorem Spot.len {w : World} {T : TypeId} {g b n : Nat} {f : List (Ad × Value)} (h : Spot w T g b n f) : f.length ≤ n := by
  obtain ⟨-, D, ho, hR⟩ := h
  have := ho.size_le
  rwa [hR.size] at this
theorem sortA_len (f : List (Ad × Value)) : (sortA (f.map (·.1))).length = f.length := by unfold sortA; rw [List.length_mergeSort, List.length_map]
theorem getAds {l : List Ad} {k : Nat} (h : k < l.length) : (ads l)[k]? = some l[k].v := by rw [ads, List.getElem?_map, List.getElem?_eq_getElem h]; rfl
set_option maxRecDepth 100000 in
set_option maxHeartbeats 8000000 in
theorem walk (A : Option Addr) (n c : Nat) (d b : Int) (w : World) (h0 : IsRows (List.replicate 3 (Kd.int .i64)) w A n c) (h1 : (Lit.int .i64 d).wf = true) (h2 : (Lit.int .i64 b).wf = true) :
    Calls Try.prog 19 #[.slice A n c, .int .i64 d, .int .i64 b] w fun e w' => e = .returned (.bool true) ∧ Below w.heap.size w w' := by
  obtain ⟨l, hr, hwf, hnc, hcm⟩ := open_ads h0
  clear h0 h1 h2
  unfold maxLen at hcm
  have HR := Lib.hid hr
  have HL := Lib.hid (show l.length = n by have := hr.1; simpa [ads] using this)
  have HW := Lib.hid hwf
  clear hr hwf
  go_enter Try.func19, Try.ntmps19
  go_wp2_with fail
  refine (begun5.begun5_any _).mono ?_
  rintro e w1 ⟨rfl, hb1⟩
  go_wp2_with fail
  refine (spotBool.new _).mono ?_
  rintro e w2 ⟨rfl, hS2, hb⟩
  have hb2 := hb1.trans (hb.mono hb1.size)
  have hm := hb1.size
  clear hb hb1
  generalize w1.heap.size = m at *
  go_wp2_with fail
  go_loopw [9] (fun i wr => ∃ (k : Nat) (f : List (Ad × Value)), k ≤ n ∧ k ≤ 40 ∧ i = .int .i64 k ∧ Spot wr 145 (m + 1) m k f ∧ Below w.heap.size w wr) (fun i _ => n - (intOf i).toNat)
  case atStart => exact ⟨0, [], by omega, by omega, rfl, hS2, hb2⟩
  case round =>
    clear hS2 hb2
    obtain ⟨k, f, hk, hk40, rfl, hS, hb⟩ := hrel
    by_cases hlt : k < n ∧ k < 40
    · have hkl : k < l.length := by rw [HL.out]; exact hlt.1
      have hr' := HR.out.below hb (Nat.le_refl _)
      obtain ⟨bb, oo, rfl, hbb, hRr⟩ := rds_range hr' hlt.1 (getAds hkl)
      have hx := HW.out l[k] (List.getElem_mem hkl)
      have hlt2 : (k : Int) < (n : Int) := by omega
      have hlt3 : (k : Int) < 40 := by omega
      have CS := Lib.hid (spotBool.set _ _ _ f l[k] (.bool true) wr hS hx (by omega) rfl)
      clear hr' hx hS
      generalize l[k] = x at *
      go_wp2_with (first | (refine wpList_load_mid rfl 83 (.tmp 32) rfl bb (oo + k * 3) rfl x.v _ hRr Try.underlying83 rfl aInfo ?_))
      refine CS.out.mono ?_
      rintro e w3 ⟨rfl, hS3, hg3⟩
      have hb3 := hb.grown hg3 hb.size (fun j hj => by cases hj; exact hm)
      clear hb hg3 CS hRr
      go_wp2_with fail
      go_roundw
      case rel => exact ⟨k + 1, _, by omega, by omega, by go_num, hS3, hb3⟩
      case measure => simp [intOf]; omega
    · have hlf := Spot.len hS
      have hwL := Spot.wf hS
      have hlL := sortA_len f
      have CA := Lib.hid (spotBool.all _ _ _ f wr hS (by omega))
      have CB := Lib.hid (fun w' (h : Below wr.heap.size wr w') => spotBool.block _ _ _ f d b w' (hS.below h) (by omega))
      have HB := Lib.hid hb
      clear hS hb
      generalize wr = wq at *
      generalize sortA (f.map (·.1)) = L at *
      have HWL := Lib.hid hwL
      clear hwL
      have hcase : (∃ hk : k = n, True) ∨ (∃ hk : k = 40, (40 : Int) < (n : Int)) := by
        by_cases h : k = n
        · exact .inl ⟨h, trivial⟩
        · exact .inr ⟨by omega, by omega⟩
      clear hlt
      rcases hcase with ⟨rfl, -⟩ | ⟨rfl, hn40⟩
      all_goals
        go_wp2_with fail
        refine CA.out.mono ?_
        rintro e w3 ⟨v3, rfl, hown, hbb, hs3⟩
        rw [← hlL] at hown
        have HLF := Lib.hid hlL
        have hL40 : L.length ≤ 40 := by omega
        clear hlL hlf
        have hb3 := HB.out.trans (hbb.mono HB.out.size)
        obtain ⟨A3, c3, rfl, -, -⟩ := hown.slice
        have hr3 := hown.rds
        have HR3 := Lib.hid hr3
        have HBB := Lib.hid hbb
        clear CA hown hr3 hbb
        go_wp2_with fail
        go_loopw [10, 12] (fun wv i wr => ∃ k2 : Nat, k2 ≤ L.length ∧ i = .int .i64 k2 ∧ OwnRows wr w3.heap.size 83 3 wv (keepL d b (L.take k2)).length (ads (keepL d b (L.take k2))) ∧ Below w3.heap.size w3 wr) (fun _ i _ => L.length - (intOf i).toNat)
        case atStart => exact ⟨0, by omega, rfl, OwnRows.nil, Below.refl _ _⟩
        case round =>
          obtain ⟨k2, hk2, rfl, hwant, hb4⟩ := hrel
          by_cases hlt : k2 < L.length
          · have hr4 := HR3.out.below hb4 (Nat.le_refl _)
            obtain ⟨bb, oo, rfl, hbb, hRr⟩ := rds_range hr4 hlt (getAds hlt)
            have hlt2 : (k2 : Int) < (L.length : Int) := by omega
            have HS := Lib.hid (keep_snoc d b L k2 L[k2] (List.getElem?_eq_getElem hlt))
            have hkl : (keepL d b (L.take k2)).length ≤ k2 := by
              unfold keepL
              exact Nat.le_trans (List.length_filter_le _ _) (by simp; omega)
            clear hr4
            generalize L[k2] = x at *
            have hc0 : wr.cell? ⟨bb, oo + k2 * 3, none⟩ = some (.int .i64 x.d) := hRr 0 _ rfl
            have hc1 : wr.cell? ⟨bb, oo + k2 * 3 + 1, none⟩ = some (.int .i64 x.b) := hRr 1 _ rfl
            by_cases e1 : x.d = d
            · by_cases e2 : x.b = b
              · have HK := Lib.hid (show keepL d b (L.take (k2 + 1)) = keepL d b (L.take k2) ++ [x] by rw [HS.out]; simp [offB, e1, e2])
                have f1 : (x.d == d) = true := by simp [e1]
                have f2 : (x.b == b) = true := by simp [e2]
                clear e1 e2
                have hrow2 := hwant.alloc (.cells x.v.toArray 83)
                have hb5 := hb4.alloc hb4.size (.cells x.v.toArray 83)
                have hrd : Rds (wr.alloc (.cells x.v.toArray 83)) (wr.alloc (.cells x.v.toArray 83)).heap.size (some ⟨wr.heap.size, 0, none⟩) 3 1 [x.v] := rds_one (row := x.v) (heap_new' wr (.cells x.v.toArray 83) _ rfl)
                have hs5 : w3.heap.size ≤ (wr.alloc (.cells x.v.toArray 83)).heap.size := hb5.size
                clear hwant hb4
                go_wp2_with (first | (refine wpList_load_mid rfl 83 (.tmp 62) rfl bb (oo + k2 * 3) rfl x.v _ hRr Try.underlying83 rfl aInfo ?_) | (refine wpList_buildOne rfl 81 (.tmp 63) rfl 83 x.v _ 3 24 rfl Try.underlying81 aInfo3 rfl (by decide) (by decide) ?_) | (at_builtin; refine wpList_appendRows rfl (.tmp 59) (.tmp 64) 81 rfl 83 _ 3 24 Try.underlying81 aInfo3 rfl (by decide) hrow2 hb5 rfl rfl hrd (fun r hr => by rw [List.mem_singleton.1 hr]; exact one_ad x) (by unfold maxLen; omega) (by omega) (by omega) (Nat.le_refl _) ?_; intro v6 w6 hown6 hb6 hgr6 hat6))
                rw [show ads (keepL d b (L.take k2)) ++ [x.v] = ads (keepL d b (L.take k2) ++ [x]) by simp [ads], show (keepL d b (L.take k2)).length + 1 = (keepL d b (L.take k2) ++ [x]).length by simp] at hown6
                go_roundw
                case rel => exact ⟨k2 + 1, by omega, by go_num, by rw [HK.out]; exact hown6, hb6⟩
                case measure => simp [intOf]; omega
              · have HK := Lib.hid (show keepL d b (L.take (k2 + 1)) = keepL d b (L.take k2) by rw [HS.out]; simp [offB, e1, e2])
                have f1 : (x.d == d) = true := by simp [e1]
                have f2 : (x.b == b) = false := by simp [e2]
                clear e1 e2
                go_wp2_with fail
                go_roundw
                case rel => exact ⟨k2 + 1, by omega, by go_num, by rw [HK.out]; exact hwant, hb4⟩
                case measure => simp [intOf]; omega
            · have HK := Lib.hid (show keepL d b (L.take (k2 + 1)) = keepL d b (L.take k2) by rw [HS.out]; simp [offB, e1])
              have f1 : (x.d == d) = false := by simp [e1]
              clear e1
              go_wp2_with fail
              go_roundw
              case rel => exact ⟨k2 + 1, by omega, by go_num, by rw [HK.out]; exact hwant, hb4⟩
              case measure => simp [intOf]; omega
          · obtain rfl : k2 = L.length := by omega
            rw [List.take_of_length_le (Nat.le_refl _)] at hwant
            have hbq := HBB.out.trans (hb4.mono HBB.out.size)
            have CBk := Lib.hid (CB.out wr hbq)
            have hwK : ∀ x ∈ keepL d b L, x.wf := fun x hx => HWL.out x (List.mem_filter.1 hx).1
            have hK40 : (keepL d b L).length ≤ 40 := by
              unfold keepL
              exact Nat.le_trans (List.length_filter_le _ _) hL40
            generalize keepL d b L = K at *
            obtain ⟨A4, c4, rfl, -, -⟩ := hwant.slice
            have HRw := Lib.hid hwant.rds
            have HWK := Lib.hid hwK
            have hb6 := hb3.trans (hb4.mono hb3.size)
            clear hwant hwK hb4 hbq CB
            go_wp2_with fail
            refine CBk.out.mono ?_
            rintro e w5 ⟨A5, c5, rfl, hr5, hbb⟩
            have HR4 := Lib.hid ((HRw.out.below hbb (Nat.le_refl _)).mono hbb.size)
            have HR5 := Lib.hid hr5
            have HB5 := Lib.hid (hb6.trans (hbb.mono hb6.size))
            clear hbb hr5 CBk hb6
            go_wp2_with fail
            go_loopw [14] (fun i wr => ∃ k3 : Nat, k3 ≤ K.length ∧ i = .int .i64 k3 ∧ Below w5.heap.size w5 wr) (fun i _ => K.length - (intOf i).toNat)
            case atStart => exact ⟨0, by omega, rfl, Below.refl _ _⟩
            case round =>
              obtain ⟨k3, hk3, rfl, hb8⟩ := hrel
              by_cases hlt : k3 < K.length
              · obtain ⟨b4, o4, rfl, -, hR4⟩ := rds_range (HR4.out.below hb8 (Nat.le_refl _)) hlt (getAds hlt)
                obtain ⟨b5, o5, rfl, -, hR5⟩ := rds_range (HR5.out.below hb8 (Nat.le_refl _)) hlt (getAds hlt)
                have hx := HWK.out K[k3] (List.getElem_mem hlt)
                have hlt2 : (k3 : Int) < (K.length : Int) := by omega
                have hne := fun w => neq_ad w hx hx
                simp only [decide_true, Bool.not_true] at hne
                clear hx
                generalize K[k3] = x at *
                change ∀ w, (binOp .neq 83 (.agg #[.int .i64 x.d, .int .i64 x.b, .int .i64 x.p]) (.agg #[.int .i64 x.d, .int .i64 x.b, .int .i64 x.p])).run Try.prog w = .ok (.bool false) w at hne
                have p0 : wr.cell? ⟨b5, o5 + k3 * 3, none⟩ = some (.int .i64 x.d) := hR5 0 _ rfl
                have p1 : wr.cell? ⟨b5, o5 + k3 * 3 + 1, none⟩ = some (.int .i64 x.b) := hR5 1 _ rfl
                have p2 : wr.cell? ⟨b5, o5 + k3 * 3 + 2, none⟩ = some (.int .i64 x.p) := hR5 2 _ rfl
                have q0 : wr.cell? ⟨b4, o4 + k3 * 3, none⟩ = some (.int .i64 x.d) := hR4 0 _ rfl
                have q1 : wr.cell? ⟨b4, o4 + k3 * 3 + 1, none⟩ = some (.int .i64 x.b) := hR4 1 _ rfl
                have q2 : wr.cell? ⟨b4, o4 + k3 * 3 + 2, none⟩ = some (.int .i64 x.p) := hR4 2 _ rfl
                clear hR4 hR5
                go_upto_region 20 with fail
                go_region
                go_wp2_with fail
                go_roundw
                case rel => exact ⟨k3 + 1, by omega, by go_num, hb8.drew⟩
                case measure => simp [intOf]; omega
              · obtain rfl : k3 = K.length := by omega
                go_wp2_with fail
                go_ret
                exact ⟨rfl, HB5.out.trans (hb8.mono HB5.out.size)⟩
end Go.Proofs.Ytakekjbbbjmdpaa.spotBlock
