import Derived.Test.YtpbigfopmompfaaGreatTallies2
import Derived.Test.YtpbigfopmompfaaGreatBunU
import Derived.Deep.DeepCutAuto
import Derived.Deep.QuietTactic
import Derived.BigQuiet
import Derived.IntWalk
/- What is worn, bad, dead, and which superblocks may be used. -/
namespace Go.Proofs.YtpbigfopmompfaaGreat.tallyAll
open Go.RowKit
open Go.Proofs.YtpbigfopmompfaaGreat.tal
open Go.Proofs.YtpbigfopmompfaaGreat.tls (refV)
open Go.Proofs.YtpbigfopmompfaaGreat.nand (zaq)
set_option linter.unusedVariables false
theorem toB_same {f : Nat} {args : Array Value} {w : World} {v : Value} (h : Calls Tryz.prog f args w fun e w' => e = .returned v ∧ w = w') : Calls Tryz.prog f args w fun e w' => e = .returned v ∧ Below w.heap.size w w' := h.mono fun _ _ h => ⟨h.1, h.2 ▸ Below.refl _ _⟩
theorem toB_drew {f : Nat} {args : Array Value} {w : World} {v : Value} (h : Calls Tryz.prog f args w fun e w' => e = .returned v ∧ ∃ n, w' = w.drewN n) : Calls Tryz.prog f args w fun e w' => e = .returned v ∧ Below w.heap.size w w' := h.mono fun _ _ h => ⟨h.1, drewN_below h.2⟩
theorem eq_geo (D B P : Nat) (hD : D ≤ 6) (hB : B ≤ 16) (hP : P ≤ 8) (w : World) : (binOp .eql 39 (.agg (tal.geoV D B P).toArray) (.agg (tal.geoV D B P).toArray)).run Tryz.prog w = .ok (.bool true) w := by
 have h1 : (Lit.int .i64 (D : Int)).wf = true := begun13.wf0 (x := (D : Int)) ⟨by omega, by omega⟩
 have h2 : (Lit.int .i64 (B : Int)).wf = true := begun13.wf0 (x := (B : Int)) ⟨by omega, by omega⟩
 have h3 : (Lit.int .i64 (P : Int)).wf = true := begun13.wf0 (x := (P : Int)) ⟨by omega, by omega⟩
 have ok : okAll (List.replicate 3 (Kd.int .i64)) (tal.geoV D B P) = true := by simp [tal.geoV, okAll, Kd.ok, List.replicate, h1, h2, h3]
 rw [run_eql_flat w (show flat Tryz.prog 4 39 = some (List.replicate 3 (Kd.int .i64)) by kernel_rfl) (show eqOk Tryz.prog 4 39 = true by kernel_rfl) (by kernel_rfl) (by decide) ok ok, lEq_self ok]
theorem al_succ : ∀ x : Nat, x < 64 → ∀ k : Nat, k < 6 → andN (2 ^ (k + 1) - 1) x = if x.testBit k then andN (2 ^ k - 1) x else andN (2 ^ k - 1) x ||| 2 ^ k := by decide +kernel
theorem or_bits2 : ∀ a : Nat, a < 64 → ∀ d : Nat, d < 6 → bits .or .i64 (a : Int) ((2 ^ d : Nat) : Int) = ((a ||| 2 ^ d : Nat) : Int) := by decide +kernel
theorem al_lt : ∀ x : Nat, x < 64 → ∀ k : Nat, k < 7 → andN (2 ^ k - 1) x < 64 := by decide +kernel
theorem al_zero (x : Nat) : andN (2 ^ 0 - 1) x = 0 := by simp [andN]
set_option maxRecDepth 100000 in
set_option maxHeartbeats 16000000 in
theorem walk0 (a b c : Int) (A : Option Addr) (n cp : Nat) (w : World) (h0 : IsRows (List.replicate 4 (Kd.int .i64) ++ List.replicate 16 (Kd.int .u8) ++ List.replicate 7 (Kd.int .i64)) w A n cp) : Calls Tryz.prog 10 #[.agg #[.int .i64 a, .int .i64 b, .int .i64 c], .slice A n cp] w fun e w' => e = .returned (.bool true) ∧ Below w.heap.size w w' := by
 obtain ⟨l, hr, hwf, hnc, hcm⟩ := open_op7s h0
 obtain ⟨D, hD⟩ : ∃ D : Nat, (D : Int) = 3 + a % 4 := ⟨(3 + a % 4).toNat, by omega⟩
 obtain ⟨B, hB⟩ : ∃ B : Nat, (B : Int) = 8 + b % 9 := ⟨(8 + b % 9).toNat, by omega⟩
 obtain ⟨P, hP⟩ : ∃ P : Nat, (P : Int) = 2 + c % 7 := ⟨(2 + c % 7).toNat, by omega⟩
 have hb0 := nand.zax w (.cells #[.int .i64 a, .int .i64 b, .int .i64 c] 39)
 have he := zak w (.cells #[.int .i64 a, .int .i64 b, .int .i64 c] 39) _ rfl
 have HB0 := Lib.hid hb0
 have HE0 := Lib.hid he
 have HTL := Lib.hid (fun (wx : World) (hx : Below w.heap.size w wx) => tls.tallies_any a b c A n cp l wx (by
  have h1 := hr.below hx (Nat.le_refl _); exact h1.mono hx.size) hwf hnc hcm D B P hD hB hP)
 have hB16 : B ≤ 16 ∧ 8 ≤ B ∧ D ≤ 6 ∧ 3 ≤ D := by omega
 obtain ⟨hB16, hB8, hD6, hD3⟩ := hB16
 clear hD hB hP hb0 he hr hwf h0 hcm
 go_enter Tryz.func10, Tryz.ntmps10
 go_upto_region 1 with fail
 change Code.wp _ _ _ _ (w.alloc (.cells #[.int .i64 a, .int .i64 b, .int .i64 c] 39))
 generalize w.alloc (.cells #[.int .i64 a, .int .i64 b, .int .i64 c] 39) = wa at *
 go_wp2_with fail
 refine (begun13.begun13_any wa).mono ?_
 rintro e w1 ⟨rfl, hb1⟩
 have he1 := zad HE0.out hb1
 have HB1 := Lib.hid (HB0.out.trans (hb1.mono HB0.out.size))
 have hrow := zal (cs := [.int .i64 a, .int .i64 b, .int .i64 c]) he1
 clear hb1 he1
 go_wp2_with (first | (refine wpList_load_mid rfl 39 (.tmp 2) rfl w.heap.size 0 rfl [.int .i64 a, .int .i64 b, .int .i64 c] _ hrow Tryz.underlying39 rfl nand.geoInfo ?_))
 refine (HTL.out _ HB1.out).mono ?_
 rintro e wq ⟨gt, lb, WB, g, mb, cb, tb, rb, GB, rfl, hs⟩
 obtain ⟨Y, hY⟩ : ∃ Y, Y = tls.run (tal.Ty.new D B P) (l.take 50) := ⟨_, rfl⟩
 rw [← hY] at hs
 have HTA := Lib.hid hs.ta
 have HWB := Lib.hid hs.ref
 have HDM := Lib.hid hs.dim
 have HB2 := Lib.hid (HB1.out.trans (hs.below.mono HB1.out.size))
 have HWQ := Lib.hid (show ∀ wz, Below wq.heap.size wq wz → Below w.heap.size w wz from fun wz h => HB2.out.trans (h.mono HB2.out.size))
 have HCB := Lib.hid (show ∀ wz, Below wq.heap.size wq wz → wz.cell? ⟨WB, 0, none⟩ = some (.int .i64 (D : Int)) ∧ wz.cell? ⟨WB, 1, none⟩ = some (.int .i64 (B : Int)) ∧ wz.cell? ⟨WB, 35, none⟩ = some (.int .i64 (Y.dead : Int)) from fun wz h => by
  have h' := zad HWB.out h; obtain ⟨d1, d2, d3⟩ := HDM.out; refine ⟨by rw [zaf h', ← d1]; rfl, by rw [zaf h', ← d2]; rfl, ?_⟩; rw [zaf h', List.getElem?_toArray]; exact tls.at_dead Y)
 clear hs hrow hY HTL HE0 HB0 HB1
 go_wp2_with fail
 go_loopw [10, 11] (fun vb _ wr => ∃ b : Int, -1 ≤ b ∧ b ≤ (B : Int) + 1 ∧ vb = .int .i64 b ∧ Below wq.heap.size wq wr) (fun vb _ _ => ((B : Int) + 1 - intOf vb).toNat)
 case atStart => exact ⟨-1, by omega, by omega, rfl, Below.refl _ _⟩
 case round =>
  obtain ⟨b, hb0, hb1, rfl, hbj⟩ := hrel; have HBJ := Lib.hid hbj; obtain ⟨cD, cB, cX⟩ := HCB.out wr hbj; clear hbj cX cD; by_cases hle : b ≤ (B : Int)
  · by_cases hin : 0 ≤ b ∧ b < (B : Int)
    · obtain ⟨hin0, hin1⟩ := hin
      obtain ⟨β, rfl⟩ := Int.eq_ofNat_of_zero_le hin0; have hβB : β < B := by omega
      obtain ⟨s, hsb⟩ : ∃ s, Y.sb[β]? = some s := ⟨_, List.getElem?_eq_getElem (by rw [HTA.out.ok.len, HDM.out.2.1]; exact hβB)⟩; have hβ16 : β < 16 := by omega
      have HC := Lib.hid (show ∀ wz, Below wq.heap.size wq wz → wz.cell? ⟨WB, 3 + β, none⟩ = some (.int .i64 s.wear) ∧ wz.cell? ⟨WB, 36 + β, none⟩ = some (.bool s.used) ∧ wz.cell? ⟨WB, 52 + β, none⟩ = some (.bool s.held) from fun wz h => by
       have h' := zad HWB.out h; refine ⟨?_, ?_, ?_⟩
       · rw [zaf h', List.getElem?_toArray]; exact tls.at_wear hsb hβ16
       · rw [zaf h', List.getElem?_toArray]; exact tls.at_used hsb hβ16
       · rw [zaf h', List.getElem?_toArray]; exact tls.at_held hsb hβ16)
      have HWr := Lib.hid (show ∀ wz, Below wq.heap.size wq wz → Calls Tryz.prog 23 #[.pointer (some ⟨gt, 0, none⟩), .int .i64 (β : Int)] wz fun e w' => e = .returned (.int .i64 s.wear) ∧ Below wz.heap.size wz w' from fun wz h => by
       have := toB_same (tal.wear_any (HTA.out.below h) (β : Int)); unfold Ty.wear at this; rw [get_in hsb] at this; exact this)
      have HBl := Lib.hid (show ∀ wz, Below wq.heap.size wq wz → Calls Tryz.prog 35 #[.pointer (some ⟨gt, 0, none⟩), .int .i64 (β : Int)] wz fun e w' => e = .returned (.bool (!s.used)) ∧ Below wz.heap.size wz w' from fun wz h => by
       have := toB_same (tal.blank_any (HTA.out.below h) (β : Int)); unfold Ty.blank at this; rw [get_in hsb] at this; exact this)
      have HHe := Lib.hid (show ∀ wz, Below wq.heap.size wq wz → Calls Tryz.prog 36 #[.pointer (some ⟨gt, 0, none⟩), .int .i64 (β : Int)] wz fun e w' => e = .returned (.bool s.held) ∧ Below wz.heap.size wz w' from fun wz h => by
       have := toB_same (tal.held_any (HTA.out.below h) (β : Int)); unfold Ty.held at this; rw [get_in hsb] at this; exact this)
      have HMk := Lib.hid (show ∀ wz, Below wq.heap.size wq wz → _ from fun wz h => toB_drew (tal.mask_any (HTA.out.below h) (β : Int))); have HUs := Lib.hid (show ∀ wz, Below wq.heap.size wq wz → _ from fun wz h => toB_drew (tal.usable_any (HTA.out.below h) (β : Int))); have HRm := Lib.hid (show ∀ wz, Below wq.heap.size wq wz → _ from fun wz h => tls.rmask_any HTA.out.ok (zad HWB.out h) β (by rw [HDM.out.2.1]; exact hβB)); have HRu := Lib.hid (show ∀ wz, Below wq.heap.size wq wz → _ from fun wz h => tls.rusable_any HTA.out.ok (zad HWB.out h) β (by rw [HDM.out.2.1]; exact hβB)); generalize s.wear = wv at *; generalize s.used = ud at *; generalize s.held = hd at *; generalize Y.mask (β : Int) = M at *; generalize Y.usable (β : Int) = us at *; have HNU := Lib.hid (show ((!ud) == ud) = false by cases ud <;> rfl); have HNH := Lib.hid (show (hd != hd) = false by cases hd <;> rfl); have HNS := Lib.hid (show (us != us) = false by cases us <;> rfl); have hβI : (β : Int) < 16 := by omega
      have hβ0 : (0 : Int) ≤ (β : Int) := by omega
      clear hsb; go_upto_region 9 with fail
      simp only [List.append_eq, List.cons_append, List.nil_append]; have HD : distinctB (([(some 45, .bool true), (some 46, .bool true), (some 47, .pointer (some ⟨gt, 0, none⟩)), (some 48, .int .i64 (β : Int)), (some 49, .int .i64 wv), (some 50, .pointer (some ⟨WB, 0, none⟩)), (some 51, .int .i64 (β : Int)), (some 52, .pointer (some ⟨WB, 0, none⟩)), (some 53, .pointer (some ⟨WB, 3, none⟩)), (some 54, .pointer (some ⟨WB, 3 + β, none⟩)), (some 55, .int .i64 wv), (some 56, .bool false), (some 57, .bool false), (some 58, .pointer (some ⟨gt, 0, none⟩)), (some 59, .int .i64 (β : Int)), (some 60, .bool (!ud)), (some 61, .pointer (some ⟨WB, 0, none⟩)), (some 62, .int .i64 (β : Int)), (some 63, .pointer (some ⟨WB, 0, none⟩)), (some 64, .pointer (some ⟨WB, 36, none⟩)), (some 65, .pointer (some ⟨WB, 36 + β, none⟩)), (some 66, .bool ud), (some 67, .bool false), (some 68, .bool false), (some 69, .bool false), (some 70, .pointer (some ⟨gt, 0, none⟩)), (some 71, .int .i64 (β : Int)), (some 72, .bool hd), (some 73, .pointer (some ⟨WB, 0, none⟩)), (some 74, .int .i64 (β : Int)), (some 75, .pointer (some ⟨WB, 0, none⟩)), (some 76, .pointer (some ⟨WB, 52, none⟩)), (some 77, .pointer (some ⟨WB, 52 + β, none⟩)), (some 78, .bool hd), (some 79, .bool false), (some 80, .bool false), (some 81, .bool false), (some 82, .bool false), (some 83, .bool true), (some 84, .bool false), (some 85, .bool false), (some 86, undef), (some 87, undef), (some 88, undef), (some 89, undef), (some 90, undef), (some 91, undef), (some 92, undef), (some 93, undef), (some 94, undef), (some 95, undef), (some 96, undef), (some 97, undef), (some 98, undef), (some 99, undef), (some 100, undef), (some 101, undef), (some 102, undef), (some 103, undef), (some 104, undef), (some 105, undef), (some 106, undef), (some 107, undef), (some 108, undef), (some 109, undef), (some 110, undef), (some 111, .bool false), (some 112, .bool false), (some 113, .bool false), (some 114, .bool true), (some 115, .bool true), (some 116, .pointer (some ⟨gt, 0, none⟩)), (some 117, .int .i64 (β : Int)), (some 118, .int .i64 (M : Int)), (some 119, .pointer (some ⟨WB, 0, none⟩)), (some 120, .int .i64 (β : Int)), (some 121, .int .i64 (M : Int)), (some 122, .bool false), (some 123, .bool false), (some 124, .pointer (some ⟨gt, 0, none⟩)), (some 125, .int .i64 (β : Int)), (some 126, .bool us), (some 127, .pointer (some ⟨WB, 0, none⟩)), (some 128, .int .i64 (β : Int)), (some 129, .bool us), (some 130, .bool false), (some 131, .bool false), (some 132, .bool false), (some 133, .bool false)] : List (Option Tmp × Value)).map (·.1)) = true := by kernel_rfl
      refine zan (by kernel_rfl) (by kernel_rfl) (X := Unit) (fun _ => [(some 45, .bool true), (some 46, .bool true), (some 47, .pointer (some ⟨gt, 0, none⟩)), (some 48, .int .i64 (β : Int)), (some 49, .int .i64 wv), (some 50, .pointer (some ⟨WB, 0, none⟩)), (some 51, .int .i64 (β : Int)), (some 52, .pointer (some ⟨WB, 0, none⟩)), (some 53, .pointer (some ⟨WB, 3, none⟩)), (some 54, .pointer (some ⟨WB, 3 + β, none⟩)), (some 55, .int .i64 wv), (some 56, .bool false), (some 57, .bool false), (some 58, .pointer (some ⟨gt, 0, none⟩)), (some 59, .int .i64 (β : Int)), (some 60, .bool (!ud)), (some 61, .pointer (some ⟨WB, 0, none⟩)), (some 62, .int .i64 (β : Int)), (some 63, .pointer (some ⟨WB, 0, none⟩)), (some 64, .pointer (some ⟨WB, 36, none⟩)), (some 65, .pointer (some ⟨WB, 36 + β, none⟩)), (some 66, .bool ud), (some 67, .bool false), (some 68, .bool false), (some 69, .bool false), (some 70, .pointer (some ⟨gt, 0, none⟩)), (some 71, .int .i64 (β : Int)), (some 72, .bool hd), (some 73, .pointer (some ⟨WB, 0, none⟩)), (some 74, .int .i64 (β : Int)), (some 75, .pointer (some ⟨WB, 0, none⟩)), (some 76, .pointer (some ⟨WB, 52, none⟩)), (some 77, .pointer (some ⟨WB, 52 + β, none⟩)), (some 78, .bool hd), (some 79, .bool false), (some 80, .bool false), (some 81, .bool false), (some 82, .bool false), (some 83, .bool true), (some 84, .bool false), (some 85, .bool false), (some 86, undef), (some 87, undef), (some 88, undef), (some 89, undef), (some 90, undef), (some 91, undef), (some 92, undef), (some 93, undef), (some 94, undef), (some 95, undef), (some 96, undef), (some 97, undef), (some 98, undef), (some 99, undef), (some 100, undef), (some 101, undef), (some 102, undef), (some 103, undef), (some 104, undef), (some 105, undef), (some 106, undef), (some 107, undef), (some 108, undef), (some 109, undef), (some 110, undef), (some 111, .bool false), (some 112, .bool false), (some 113, .bool false), (some 114, .bool true), (some 115, .bool true), (some 116, .pointer (some ⟨gt, 0, none⟩)), (some 117, .int .i64 (β : Int)), (some 118, .int .i64 (M : Int)), (some 119, .pointer (some ⟨WB, 0, none⟩)), (some 120, .int .i64 (β : Int)), (some 121, .int .i64 (M : Int)), (some 122, .bool false), (some 123, .bool false), (some 124, .pointer (some ⟨gt, 0, none⟩)), (some 125, .int .i64 (β : Int)), (some 126, .bool us), (some 127, .pointer (some ⟨WB, 0, none⟩)), (some 128, .int .i64 (β : Int)), (some 129, .bool us), (some 130, .bool false), (some 131, .bool false), (some 132, .bool false), (some 133, .bool false)])
       (fun _ L w' => Below wq.heap.size wq w') (fun _ => rfl) (by kernel_rfl) ⟨(), fun L hL => HBJ.out.drew⟩ ?_ ?_
      · refine ⟨?_, ?_, ?_, ?_, ?_, ?_, ?_, ?_, ?_, ?_, ?_, ?_, ?_, ?_, ?_, ?_, ?_, ?_, ?_, ?_, ?_, ?_, ?_, ?_, ?_, ?_, ?_, ?_, ?_, ?_, ?_, ?_, ?_, ?_, ?_, ?_, ?_, ?_, ?_, ?_, ?_, ?_, ?_, ?_, ?_, ?_, ?_, ?_, ?_, ?_, ?_, ?_, ?_, ?_, ?_, ?_, ?_, ?_, ?_, ?_, ?_, ?_, ?_, ?_, ?_, ?_, ?_, ?_, ?_, ?_, ?_, ?_, ?_, ?_, ?_, ?_, ?_, ?_, ?_, ?_, ?_, ?_, ?_, ?_, ?_, ?_, ?_, ?_, ?_, trivial⟩
        · intro _ L w' hL hpre hJ a ha
          have jb := hJ; simp [Region.binds] at hpre; refine .inl ⟨zaa rfl, ?_⟩; exact zah (.tmp 11) (.inl rfl) (.bool true) (by rw [ha, zac rfl]; rfl) ⟨(), _, rfl, rfl, jb⟩
        · intro _ L w' hL hpre hJ a ha
          have jb := hJ; simp [Region.binds] at hpre; refine .inl ⟨zaa rfl, ?_⟩; exact zah (.tmp 45) (.inl rfl) (.bool true) (evP ha 0 rfl (by simp [hpre]) (by simp) HD) ⟨(), _, rfl, rfl, jb⟩
        · intro _ L w' hL hpre hJ a ha
          have jb := hJ; simp [Region.binds] at hpre; refine .inl ⟨zae (g := 1) (t := 46) (b := true) rfl rfl (evP ha 1 rfl (by simp [hpre]) (by simp) HD), ?_⟩; exact zah (.tmp 6) (.inl rfl) (.pointer (some ⟨gt, 0, none⟩)) (by rw [ha, zac rfl]; rfl) ⟨(), _, rfl, rfl, jb⟩
        · intro _ L w' hL hpre hJ a ha
          have jb := hJ; simp [Region.binds] at hpre; refine .inl ⟨zae (g := 1) (t := 46) (b := true) rfl rfl (evP ha 1 rfl (by simp [hpre]) (by simp) HD), ?_⟩; exact zah (.tmp 10) (.inl rfl) (.int .i64 (β : Int)) (by rw [ha, zac rfl]; rfl) ⟨(), _, rfl, rfl, jb⟩
        · intro _ L w' hL hpre hJ a ha
          have jb := hJ; simp [Region.binds] at hpre; refine .inl ⟨zae (g := 1) (t := 46) (b := true) rfl rfl (evP ha 1 rfl (by simp [hpre]) (by simp) HD), ?_⟩; have e47 : a.eval (.tmp 47) = .pointer (some ⟨gt, 0, none⟩) := evP ha 2 rfl (by simp [hpre]) (by simp) HD; have e48 : a.eval (.tmp 48) = .int .i64 (β : Int) := evP ha 3 rfl (by simp [hpre]) (by simp) HD; clear ha; have jb' := Lib.hid jb; clear jb; refine zab fun K HK => ?_; unfold Oper.wp; simp only [execOp, resolve, List.map_toArray, List.map_cons, List.map_nil, e47, e48]; go_simp; refine ((HWr.out w' jb'.out)).mono ?_; rintro e w'' ⟨rfl, hb⟩; exact HK.out _ _ ⟨(), _, rfl, rfl, jb'.out.trans (hb.mono jb'.out.size)⟩
        · intro _ L w' hL hpre hJ a ha
          have jb := hJ; simp [Region.binds] at hpre; refine .inl ⟨zae (g := 1) (t := 46) (b := true) rfl rfl (evP ha 1 rfl (by simp [hpre]) (by simp) HD), ?_⟩; exact zah (.tmp 7) (.inl rfl) (.pointer (some ⟨WB, 0, none⟩)) (by rw [ha, zac rfl]; rfl) ⟨(), _, rfl, rfl, jb⟩
        · intro _ L w' hL hpre hJ a ha
          have jb := hJ; simp [Region.binds] at hpre; refine .inl ⟨zae (g := 1) (t := 46) (b := true) rfl rfl (evP ha 1 rfl (by simp [hpre]) (by simp) HD), ?_⟩; exact zah (.tmp 10) (.inl rfl) (.int .i64 (β : Int)) (by rw [ha, zac rfl]; rfl) ⟨(), _, rfl, rfl, jb⟩
        · intro _ L w' hL hpre hJ a ha
          have jb := hJ; simp [Region.binds] at hpre; refine .inl ⟨zae (g := 1) (t := 46) (b := true) rfl rfl (evP ha 1 rfl (by simp [hpre]) (by simp) HD), ?_⟩; have e50 : a.eval (.tmp 50) = .pointer (some ⟨WB, 0, none⟩) := evP ha 5 rfl (by simp [hpre]) (by simp) HD; clear ha; have jb' := Lib.hid jb; clear jb; refine zab fun K HK => ?_; unfold Oper.wp; simp only [execOp, e50]; go_simp; exact HK.out _ _ ⟨(), _, rfl, rfl, jb'.out⟩
        · intro _ L w' hL hpre hJ a ha
          have jb := hJ; simp [Region.binds] at hpre; refine .inl ⟨zae (g := 1) (t := 46) (b := true) rfl rfl (evP ha 1 rfl (by simp [hpre]) (by simp) HD), ?_⟩; have e52 : a.eval (.tmp 52) = .pointer (some ⟨WB, 0, none⟩) := evP ha 7 rfl (by simp [hpre]) (by simp) HD; clear ha; have jb' := Lib.hid jb; clear jb; refine zab fun K HK => ?_; unfold Oper.wp; simp only [execOp, e52]; go_simp; exact HK.out _ _ ⟨(), _, rfl, rfl, jb'.out⟩
        · intro _ L w' hL hpre hJ a ha
          have jb := hJ; simp [Region.binds] at hpre; refine .inl ⟨zae (g := 1) (t := 46) (b := true) rfl rfl (evP ha 1 rfl (by simp [hpre]) (by simp) HD), ?_⟩; have e53 : a.eval (.tmp 53) = .pointer (some ⟨WB, 3, none⟩) := evP ha 8 rfl (by simp [hpre]) (by simp) HD; have e51 : a.eval (.tmp 51) = .int .i64 (β : Int) := evP ha 6 rfl (by simp [hpre]) (by simp) HD; clear ha; have jb' := Lib.hid jb; clear jb; refine zab fun K HK => ?_; unfold Oper.wp; simp only [execOp, e53, e51]; go_simp; exact HK.out _ _ ⟨(), _, rfl, rfl, jb'.out⟩
        · intro _ L w' hL hpre hJ a ha
          have jb := hJ; simp [Region.binds] at hpre; refine .inl ⟨zae (g := 1) (t := 46) (b := true) rfl rfl (evP ha 1 rfl (by simp [hpre]) (by simp) HD), ?_⟩; have e54 : a.eval (.tmp 54) = .pointer (some ⟨WB, 3 + β, none⟩) := evP ha 9 rfl (by simp [hpre]) (by simp) HD; clear ha; have cz := (HC.out w' jb).1; have jb' := Lib.hid jb; clear jb; refine zab fun K HK => ?_; unfold Oper.wp; simp only [execOp, e54]; go_simp; exact HK.out _ _ ⟨(), _, rfl, rfl, jb'.out⟩
        · intro _ L w' hL hpre hJ a ha
          have jb := hJ; simp [Region.binds] at hpre; refine .inl ⟨zae (g := 1) (t := 46) (b := true) rfl rfl (evP ha 1 rfl (by simp [hpre]) (by simp) HD), ?_⟩; have e49 : a.eval (.tmp 49) = .int .i64 wv := evP ha 4 rfl (by simp [hpre]) (by simp) HD; have e55 : a.eval (.tmp 55) = .int .i64 wv := evP ha 10 rfl (by simp [hpre]) (by simp) HD; clear ha; have jb' := Lib.hid jb; clear jb; refine zab fun K HK => ?_; unfold Oper.wp; simp only [execOp, e49, e55]; go_simp; exact HK.out _ _ ⟨(), _, rfl, rfl, jb'.out⟩
        · intro _ L w' hL hpre hJ a ha
          have jb := hJ; simp [Region.binds] at hpre; refine .inl ⟨zae (g := 1) (t := 46) (b := true) rfl rfl (evP ha 1 rfl (by simp [hpre]) (by simp) HD), ?_⟩; exact zah (.tmp 56) (.inl rfl) (.bool false) (evP ha 11 rfl (by simp [hpre]) (by simp) HD) ⟨(), _, rfl, rfl, jb⟩
        · intro _ L w' hL hpre hJ a ha
          have jb := hJ; simp [Region.binds] at hpre; refine .inl ⟨zae (g := 12) (t := 57) (b := false) rfl rfl (evP ha 12 rfl (by simp [hpre]) (by simp) HD), ?_⟩; exact zah (.tmp 6) (.inl rfl) (.pointer (some ⟨gt, 0, none⟩)) (by rw [ha, zac rfl]; rfl) ⟨(), _, rfl, rfl, jb⟩
        · intro _ L w' hL hpre hJ a ha
          have jb := hJ; simp [Region.binds] at hpre; refine .inl ⟨zae (g := 12) (t := 57) (b := false) rfl rfl (evP ha 12 rfl (by simp [hpre]) (by simp) HD), ?_⟩; exact zah (.tmp 10) (.inl rfl) (.int .i64 (β : Int)) (by rw [ha, zac rfl]; rfl) ⟨(), _, rfl, rfl, jb⟩
        · intro _ L w' hL hpre hJ a ha
          have jb := hJ; simp [Region.binds] at hpre; refine .inl ⟨zae (g := 12) (t := 57) (b := false) rfl rfl (evP ha 12 rfl (by simp [hpre]) (by simp) HD), ?_⟩; have e58 : a.eval (.tmp 58) = .pointer (some ⟨gt, 0, none⟩) := evP ha 13 rfl (by simp [hpre]) (by simp) HD; have e59 : a.eval (.tmp 59) = .int .i64 (β : Int) := evP ha 14 rfl (by simp [hpre]) (by simp) HD; clear ha; have jb' := Lib.hid jb; clear jb; refine zab fun K HK => ?_; unfold Oper.wp; simp only [execOp, resolve, List.map_toArray, List.map_cons, List.map_nil, e58, e59]; go_simp; refine ((HBl.out w' jb'.out)).mono ?_; rintro e w'' ⟨rfl, hb⟩; exact HK.out _ _ ⟨(), _, rfl, rfl, jb'.out.trans (hb.mono jb'.out.size)⟩
        · intro _ L w' hL hpre hJ a ha
          have jb := hJ; simp [Region.binds] at hpre; refine .inl ⟨zae (g := 12) (t := 57) (b := false) rfl rfl (evP ha 12 rfl (by simp [hpre]) (by simp) HD), ?_⟩; exact zah (.tmp 7) (.inl rfl) (.pointer (some ⟨WB, 0, none⟩)) (by rw [ha, zac rfl]; rfl) ⟨(), _, rfl, rfl, jb⟩
        · intro _ L w' hL hpre hJ a ha
          have jb := hJ; simp [Region.binds] at hpre; refine .inl ⟨zae (g := 12) (t := 57) (b := false) rfl rfl (evP ha 12 rfl (by simp [hpre]) (by simp) HD), ?_⟩; exact zah (.tmp 10) (.inl rfl) (.int .i64 (β : Int)) (by rw [ha, zac rfl]; rfl) ⟨(), _, rfl, rfl, jb⟩
        · intro _ L w' hL hpre hJ a ha
          have jb := hJ; simp [Region.binds] at hpre; refine .inl ⟨zae (g := 12) (t := 57) (b := false) rfl rfl (evP ha 12 rfl (by simp [hpre]) (by simp) HD), ?_⟩; have e61 : a.eval (.tmp 61) = .pointer (some ⟨WB, 0, none⟩) := evP ha 16 rfl (by simp [hpre]) (by simp) HD; clear ha; have jb' := Lib.hid jb; clear jb; refine zab fun K HK => ?_; unfold Oper.wp; simp only [execOp, e61]; go_simp; exact HK.out _ _ ⟨(), _, rfl, rfl, jb'.out⟩
        · intro _ L w' hL hpre hJ a ha
          have jb := hJ; simp [Region.binds] at hpre; refine .inl ⟨zae (g := 12) (t := 57) (b := false) rfl rfl (evP ha 12 rfl (by simp [hpre]) (by simp) HD), ?_⟩; have e63 : a.eval (.tmp 63) = .pointer (some ⟨WB, 0, none⟩) := evP ha 18 rfl (by simp [hpre]) (by simp) HD; clear ha; have jb' := Lib.hid jb; clear jb; refine zab fun K HK => ?_; unfold Oper.wp; simp only [execOp, e63]; go_simp; exact HK.out _ _ ⟨(), _, rfl, rfl, jb'.out⟩
        · intro _ L w' hL hpre hJ a ha
          have jb := hJ; simp [Region.binds] at hpre; refine .inl ⟨zae (g := 12) (t := 57) (b := false) rfl rfl (evP ha 12 rfl (by simp [hpre]) (by simp) HD), ?_⟩; have e64 : a.eval (.tmp 64) = .pointer (some ⟨WB, 36, none⟩) := evP ha 19 rfl (by simp [hpre]) (by simp) HD; have e62 : a.eval (.tmp 62) = .int .i64 (β : Int) := evP ha 17 rfl (by simp [hpre]) (by simp) HD; clear ha; have jb' := Lib.hid jb; clear jb; refine zab fun K HK => ?_; unfold Oper.wp; simp only [execOp, e64, e62]; go_simp; exact HK.out _ _ ⟨(), _, rfl, rfl, jb'.out⟩
        · intro _ L w' hL hpre hJ a ha
          have jb := hJ; simp [Region.binds] at hpre; refine .inl ⟨zae (g := 12) (t := 57) (b := false) rfl rfl (evP ha 12 rfl (by simp [hpre]) (by simp) HD), ?_⟩; have e65 : a.eval (.tmp 65) = .pointer (some ⟨WB, 36 + β, none⟩) := evP ha 20 rfl (by simp [hpre]) (by simp) HD; clear ha; have cz := (HC.out w' jb).2.1; have jb' := Lib.hid jb; clear jb; refine zab fun K HK => ?_; unfold Oper.wp; simp only [execOp, e65]; go_simp; exact HK.out _ _ ⟨(), _, rfl, rfl, jb'.out⟩
        · intro _ L w' hL hpre hJ a ha
          have jb := hJ; simp [Region.binds] at hpre; refine .inl ⟨zae (g := 12) (t := 57) (b := false) rfl rfl (evP ha 12 rfl (by simp [hpre]) (by simp) HD), ?_⟩; have e60 : a.eval (.tmp 60) = .bool (!ud) := evP ha 15 rfl (by simp [hpre]) (by simp) HD; have e66 : a.eval (.tmp 66) = .bool ud := evP ha 21 rfl (by simp [hpre]) (by simp) HD; clear ha; have hz := HNU.out; have jb' := Lib.hid jb; clear jb; refine zab fun K HK => ?_; unfold Oper.wp; simp only [execOp, e60, e66]; go_simp; exact HK.out _ _ ⟨(), _, rfl, rfl, jb'.out⟩
        · intro _ L w' hL hpre hJ a ha
          have jb := hJ; simp [Region.binds] at hpre; refine .inl ⟨zae (g := 1) (t := 46) (b := true) rfl rfl (evP ha 1 rfl (by simp [hpre]) (by simp) HD), ?_⟩; have e57 : a.eval (.tmp 57) = .bool false := evP ha 12 rfl (by simp [hpre]) (by simp) HD; have e67 : a.eval (.tmp 67) = .bool false := evP ha 22 rfl (by simp [hpre]) (by simp) HD; clear ha; have jb' := Lib.hid jb; clear jb; refine zab fun K HK => ?_; unfold Oper.wp; simp only [execOp, e57, e67]; go_simp; exact HK.out _ _ ⟨(), _, rfl, rfl, jb'.out⟩
        · intro _ L w' hL hpre hJ a ha
          have jb := hJ; simp [Region.binds] at hpre; refine .inl ⟨zae (g := 1) (t := 46) (b := true) rfl rfl (evP ha 1 rfl (by simp [hpre]) (by simp) HD), ?_⟩; exact zah (.tmp 68) (.inl rfl) (.bool false) (evP ha 23 rfl (by simp [hpre]) (by simp) HD) ⟨(), _, rfl, rfl, jb⟩
        · intro _ L w' hL hpre hJ a ha
          have jb := hJ; simp [Region.binds] at hpre; refine .inl ⟨zae (g := 24) (t := 69) (b := false) rfl rfl (evP ha 24 rfl (by simp [hpre]) (by simp) HD), ?_⟩; exact zah (.tmp 6) (.inl rfl) (.pointer (some ⟨gt, 0, none⟩)) (by rw [ha, zac rfl]; rfl) ⟨(), _, rfl, rfl, jb⟩
        · intro _ L w' hL hpre hJ a ha
          have jb := hJ; simp [Region.binds] at hpre; refine .inl ⟨zae (g := 24) (t := 69) (b := false) rfl rfl (evP ha 24 rfl (by simp [hpre]) (by simp) HD), ?_⟩; exact zah (.tmp 10) (.inl rfl) (.int .i64 (β : Int)) (by rw [ha, zac rfl]; rfl) ⟨(), _, rfl, rfl, jb⟩
        · intro _ L w' hL hpre hJ a ha
          have jb := hJ; simp [Region.binds] at hpre; refine .inl ⟨zae (g := 24) (t := 69) (b := false) rfl rfl (evP ha 24 rfl (by simp [hpre]) (by simp) HD), ?_⟩; have e70 : a.eval (.tmp 70) = .pointer (some ⟨gt, 0, none⟩) := evP ha 25 rfl (by simp [hpre]) (by simp) HD; have e71 : a.eval (.tmp 71) = .int .i64 (β : Int) := evP ha 26 rfl (by simp [hpre]) (by simp) HD; clear ha; have jb' := Lib.hid jb; clear jb; refine zab fun K HK => ?_; unfold Oper.wp; simp only [execOp, resolve, List.map_toArray, List.map_cons, List.map_nil, e70, e71]; go_simp; refine ((HHe.out w' jb'.out)).mono ?_; rintro e w'' ⟨rfl, hb⟩; exact HK.out _ _ ⟨(), _, rfl, rfl, jb'.out.trans (hb.mono jb'.out.size)⟩
        · intro _ L w' hL hpre hJ a ha
          have jb := hJ; simp [Region.binds] at hpre; refine .inl ⟨zae (g := 24) (t := 69) (b := false) rfl rfl (evP ha 24 rfl (by simp [hpre]) (by simp) HD), ?_⟩; exact zah (.tmp 7) (.inl rfl) (.pointer (some ⟨WB, 0, none⟩)) (by rw [ha, zac rfl]; rfl) ⟨(), _, rfl, rfl, jb⟩
        · intro _ L w' hL hpre hJ a ha
          have jb := hJ; simp [Region.binds] at hpre; refine .inl ⟨zae (g := 24) (t := 69) (b := false) rfl rfl (evP ha 24 rfl (by simp [hpre]) (by simp) HD), ?_⟩; exact zah (.tmp 10) (.inl rfl) (.int .i64 (β : Int)) (by rw [ha, zac rfl]; rfl) ⟨(), _, rfl, rfl, jb⟩
        · intro _ L w' hL hpre hJ a ha
          have jb := hJ; simp [Region.binds] at hpre; refine .inl ⟨zae (g := 24) (t := 69) (b := false) rfl rfl (evP ha 24 rfl (by simp [hpre]) (by simp) HD), ?_⟩; have e73 : a.eval (.tmp 73) = .pointer (some ⟨WB, 0, none⟩) := evP ha 28 rfl (by simp [hpre]) (by simp) HD; clear ha; have jb' := Lib.hid jb; clear jb; refine zab fun K HK => ?_; unfold Oper.wp; simp only [execOp, e73]; go_simp; exact HK.out _ _ ⟨(), _, rfl, rfl, jb'.out⟩
        · intro _ L w' hL hpre hJ a ha
          have jb := hJ; simp [Region.binds] at hpre; refine .inl ⟨zae (g := 24) (t := 69) (b := false) rfl rfl (evP ha 24 rfl (by simp [hpre]) (by simp) HD), ?_⟩; have e75 : a.eval (.tmp 75) = .pointer (some ⟨WB, 0, none⟩) := evP ha 30 rfl (by simp [hpre]) (by simp) HD; clear ha; have jb' := Lib.hid jb; clear jb; refine zab fun K HK => ?_; unfold Oper.wp; simp only [execOp, e75]; go_simp; exact HK.out _ _ ⟨(), _, rfl, rfl, jb'.out⟩
        · intro _ L w' hL hpre hJ a ha
          have jb := hJ; simp [Region.binds] at hpre; refine .inl ⟨zae (g := 24) (t := 69) (b := false) rfl rfl (evP ha 24 rfl (by simp [hpre]) (by simp) HD), ?_⟩; have e76 : a.eval (.tmp 76) = .pointer (some ⟨WB, 52, none⟩) := evP ha 31 rfl (by simp [hpre]) (by simp) HD; have e74 : a.eval (.tmp 74) = .int .i64 (β : Int) := evP ha 29 rfl (by simp [hpre]) (by simp) HD; clear ha; have jb' := Lib.hid jb; clear jb; refine zab fun K HK => ?_; unfold Oper.wp; simp only [execOp, e76, e74]; go_simp; exact HK.out _ _ ⟨(), _, rfl, rfl, jb'.out⟩
        · intro _ L w' hL hpre hJ a ha
          have jb := hJ; simp [Region.binds] at hpre; refine .inl ⟨zae (g := 24) (t := 69) (b := false) rfl rfl (evP ha 24 rfl (by simp [hpre]) (by simp) HD), ?_⟩; have e77 : a.eval (.tmp 77) = .pointer (some ⟨WB, 52 + β, none⟩) := evP ha 32 rfl (by simp [hpre]) (by simp) HD; clear ha; have cz := (HC.out w' jb).2.2; have jb' := Lib.hid jb; clear jb; refine zab fun K HK => ?_; unfold Oper.wp; simp only [execOp, e77]; go_simp; exact HK.out _ _ ⟨(), _, rfl, rfl, jb'.out⟩
        · intro _ L w' hL hpre hJ a ha
          have jb := hJ; simp [Region.binds] at hpre; refine .inl ⟨zae (g := 24) (t := 69) (b := false) rfl rfl (evP ha 24 rfl (by simp [hpre]) (by simp) HD), ?_⟩; have e72 : a.eval (.tmp 72) = .bool hd := evP ha 27 rfl (by simp [hpre]) (by simp) HD; have e78 : a.eval (.tmp 78) = .bool hd := evP ha 33 rfl (by simp [hpre]) (by simp) HD; clear ha; have hz := HNH.out; have jb' := Lib.hid jb; clear jb; refine zab fun K HK => ?_; unfold Oper.wp; simp only [execOp, e72, e78]; go_simp; exact HK.out _ _ ⟨(), _, rfl, rfl, jb'.out⟩
        · intro _ L w' hL hpre hJ a ha
          have jb := hJ; simp [Region.binds] at hpre; refine .inl ⟨zae (g := 1) (t := 46) (b := true) rfl rfl (evP ha 1 rfl (by simp [hpre]) (by simp) HD), ?_⟩; have e69 : a.eval (.tmp 69) = .bool false := evP ha 24 rfl (by simp [hpre]) (by simp) HD; have e79 : a.eval (.tmp 79) = .bool false := evP ha 34 rfl (by simp [hpre]) (by simp) HD; clear ha; have jb' := Lib.hid jb; clear jb; refine zab fun K HK => ?_; unfold Oper.wp; simp only [execOp, e69, e79]; go_simp; exact HK.out _ _ ⟨(), _, rfl, rfl, jb'.out⟩
        · intro _ L w' hL hpre hJ a ha
          have jb := hJ; simp [Region.binds] at hpre; refine .inl ⟨zaa rfl, ?_⟩; have e46 : a.eval (.tmp 46) = .bool true := evP ha 1 rfl (by simp [hpre]) (by simp) HD; have e80 : a.eval (.tmp 80) = .bool false := evP ha 35 rfl (by simp [hpre]) (by simp) HD; clear ha; have jb' := Lib.hid jb; clear jb; refine zab fun K HK => ?_; unfold Oper.wp; simp only [execOp, e46, e80]; go_simp; exact HK.out _ _ ⟨(), _, rfl, rfl, jb'.out⟩
        · intro _ L w' hL hpre hJ a ha
          have jb := hJ; simp [Region.binds] at hpre; refine .inl ⟨zaa rfl, ?_⟩; exact zah (.tmp 81) (.inl rfl) (.bool false) (evP ha 36 rfl (by simp [hpre]) (by simp) HD) ⟨(), _, rfl, rfl, jb⟩
        · intro _ L w' hL hpre hJ a ha
          have jb := hJ; simp [Region.binds] at hpre; refine .inl ⟨zae (g := 37) (t := 82) (b := false) rfl rfl (evP ha 37 rfl (by simp [hpre]) (by simp) HD), ?_⟩; exact zah (.tmp 11) (.inl rfl) (.bool true) (by rw [ha, zac rfl]; rfl) ⟨(), _, rfl, rfl, jb⟩
        · intro _ L w' hL hpre hJ a ha
          have jb := hJ; simp [Region.binds] at hpre; refine .inl ⟨zae (g := 37) (t := 82) (b := false) rfl rfl (evP ha 37 rfl (by simp [hpre]) (by simp) HD), ?_⟩; have e83 : a.eval (.tmp 83) = .bool true := evP ha 38 rfl (by simp [hpre]) (by simp) HD; clear ha; have jb' := Lib.hid jb; clear jb; refine zab fun K HK => ?_; unfold Oper.wp; simp only [execOp, e83]; go_simp; exact HK.out _ _ ⟨(), _, rfl, rfl, jb'.out⟩
        · intro _ L w' hL hpre hJ a ha
          have jb := hJ; simp [Region.binds] at hpre; refine .inl ⟨zae (g := 37) (t := 82) (b := false) rfl rfl (evP ha 37 rfl (by simp [hpre]) (by simp) HD), ?_⟩; exact zah (.tmp 84) (.inl rfl) (.bool false) (evP ha 39 rfl (by simp [hpre]) (by simp) HD) ⟨(), _, rfl, rfl, jb⟩
        · intro _ L w' hL hpre hJ a ha
          have jb := hJ; simp [Region.binds] at hpre; exact .inr ⟨zap (g := 40) (t := 85) (b := true) rfl rfl (evP ha 40 rfl (by simp [hpre]) (by simp) HD), (), rfl, jb⟩
        · intro _ L w' hL hpre hJ a ha
          have jb := hJ; simp [Region.binds] at hpre; exact .inr ⟨zap (g := 40) (t := 85) (b := true) rfl rfl (evP ha 40 rfl (by simp [hpre]) (by simp) HD), (), rfl, jb⟩
        · intro _ L w' hL hpre hJ a ha
          have jb := hJ; simp [Region.binds] at hpre; exact .inr ⟨zap (g := 40) (t := 85) (b := true) rfl rfl (evP ha 40 rfl (by simp [hpre]) (by simp) HD), (), rfl, jb⟩
        · intro _ L w' hL hpre hJ a ha
          have jb := hJ; simp [Region.binds] at hpre; exact .inr ⟨zap (g := 40) (t := 85) (b := true) rfl rfl (evP ha 40 rfl (by simp [hpre]) (by simp) HD), (), rfl, jb⟩
        · intro _ L w' hL hpre hJ a ha
          have jb := hJ; simp [Region.binds] at hpre; exact .inr ⟨zap (g := 40) (t := 85) (b := true) rfl rfl (evP ha 40 rfl (by simp [hpre]) (by simp) HD), (), rfl, jb⟩
        · intro _ L w' hL hpre hJ a ha
          have jb := hJ; simp [Region.binds] at hpre; exact .inr ⟨zaq (g := 45) (t := 90) (b := false) rfl rfl (evP ha 45 rfl (by simp [hpre]) (by simp) HD), (), rfl, jb⟩
        · intro _ L w' hL hpre hJ a ha
          have jb := hJ; simp [Region.binds] at hpre; exact .inr ⟨zaq (g := 45) (t := 90) (b := false) rfl rfl (evP ha 45 rfl (by simp [hpre]) (by simp) HD), (), rfl, jb⟩
        · intro _ L w' hL hpre hJ a ha
          have jb := hJ; simp [Region.binds] at hpre; exact .inr ⟨zaq (g := 45) (t := 90) (b := false) rfl rfl (evP ha 45 rfl (by simp [hpre]) (by simp) HD), (), rfl, jb⟩
        · intro _ L w' hL hpre hJ a ha
          have jb := hJ; simp [Region.binds] at hpre; exact .inr ⟨zaq (g := 45) (t := 90) (b := false) rfl rfl (evP ha 45 rfl (by simp [hpre]) (by simp) HD), (), rfl, jb⟩
        · intro _ L w' hL hpre hJ a ha
          have jb := hJ; simp [Region.binds] at hpre; exact .inr ⟨zap (g := 40) (t := 85) (b := true) rfl rfl (evP ha 40 rfl (by simp [hpre]) (by simp) HD), (), rfl, jb⟩
        · intro _ L w' hL hpre hJ a ha
          have jb := hJ; simp [Region.binds] at hpre; exact .inr ⟨zap (g := 40) (t := 85) (b := true) rfl rfl (evP ha 40 rfl (by simp [hpre]) (by simp) HD), (), rfl, jb⟩
        · intro _ L w' hL hpre hJ a ha
          have jb := hJ; simp [Region.binds] at hpre; exact .inr ⟨zaq (g := 51) (t := 96) (b := false) rfl rfl (evP ha 51 rfl (by simp [hpre]) (by simp) HD), (), rfl, jb⟩
        · intro _ L w' hL hpre hJ a ha
          have jb := hJ; simp [Region.binds] at hpre; exact .inr ⟨zaq (g := 51) (t := 96) (b := false) rfl rfl (evP ha 51 rfl (by simp [hpre]) (by simp) HD), (), rfl, jb⟩
        · intro _ L w' hL hpre hJ a ha
          have jb := hJ; simp [Region.binds] at hpre; exact .inr ⟨zaq (g := 51) (t := 96) (b := false) rfl rfl (evP ha 51 rfl (by simp [hpre]) (by simp) HD), (), rfl, jb⟩
        · intro _ L w' hL hpre hJ a ha
          have jb := hJ; simp [Region.binds] at hpre; exact .inr ⟨zap (g := 40) (t := 85) (b := true) rfl rfl (evP ha 40 rfl (by simp [hpre]) (by simp) HD), (), rfl, jb⟩
        · intro _ L w' hL hpre hJ a ha
          have jb := hJ; simp [Region.binds] at hpre; exact .inr ⟨zap (g := 40) (t := 85) (b := true) rfl rfl (evP ha 40 rfl (by simp [hpre]) (by simp) HD), (), rfl, jb⟩
        · intro _ L w' hL hpre hJ a ha
          have jb := hJ; simp [Region.binds] at hpre; exact .inr ⟨zaq (g := 56) (t := 101) (b := false) rfl rfl (evP ha 56 rfl (by simp [hpre]) (by simp) HD), (), rfl, jb⟩
        · intro _ L w' hL hpre hJ a ha
          have jb := hJ; simp [Region.binds] at hpre; exact .inr ⟨zaq (g := 56) (t := 101) (b := false) rfl rfl (evP ha 56 rfl (by simp [hpre]) (by simp) HD), (), rfl, jb⟩
        · intro _ L w' hL hpre hJ a ha
          have jb := hJ; simp [Region.binds] at hpre; exact .inr ⟨zaq (g := 56) (t := 101) (b := false) rfl rfl (evP ha 56 rfl (by simp [hpre]) (by simp) HD), (), rfl, jb⟩
        · intro _ L w' hL hpre hJ a ha
          have jb := hJ; simp [Region.binds] at hpre; exact .inr ⟨zap (g := 40) (t := 85) (b := true) rfl rfl (evP ha 40 rfl (by simp [hpre]) (by simp) HD), (), rfl, jb⟩
        · intro _ L w' hL hpre hJ a ha
          have jb := hJ; simp [Region.binds] at hpre; exact .inr ⟨zap (g := 40) (t := 85) (b := true) rfl rfl (evP ha 40 rfl (by simp [hpre]) (by simp) HD), (), rfl, jb⟩
        · intro _ L w' hL hpre hJ a ha
          have jb := hJ; simp [Region.binds] at hpre; exact .inr ⟨zaq (g := 61) (t := 106) (b := false) rfl rfl (evP ha 61 rfl (by simp [hpre]) (by simp) HD), (), rfl, jb⟩
        · intro _ L w' hL hpre hJ a ha
          have jb := hJ; simp [Region.binds] at hpre; exact .inr ⟨zaq (g := 61) (t := 106) (b := false) rfl rfl (evP ha 61 rfl (by simp [hpre]) (by simp) HD), (), rfl, jb⟩
        · intro _ L w' hL hpre hJ a ha
          have jb := hJ; simp [Region.binds] at hpre; exact .inr ⟨zaq (g := 61) (t := 106) (b := false) rfl rfl (evP ha 61 rfl (by simp [hpre]) (by simp) HD), (), rfl, jb⟩
        · intro _ L w' hL hpre hJ a ha
          have jb := hJ; simp [Region.binds] at hpre; exact .inr ⟨zap (g := 40) (t := 85) (b := true) rfl rfl (evP ha 40 rfl (by simp [hpre]) (by simp) HD), (), rfl, jb⟩
        · intro _ L w' hL hpre hJ a ha
          have jb := hJ; simp [Region.binds] at hpre; refine .inl ⟨zae (g := 37) (t := 82) (b := false) rfl rfl (evP ha 37 rfl (by simp [hpre]) (by simp) HD), ?_⟩; have e85 : a.eval (.tmp 85) = .bool false := evP ha 40 rfl (by simp [hpre]) (by simp) HD; clear ha; have jb' := Lib.hid jb; clear jb; refine zab fun K HK => ?_; unfold Oper.wp; simp only [execOp, e85]; go_simp; exact HK.out _ _ ⟨(), _, rfl, rfl, jb'.out⟩
        · intro _ L w' hL hpre hJ a ha
          have jb := hJ; simp [Region.binds] at hpre; refine .inl ⟨zaa rfl, ?_⟩; have e82 : a.eval (.tmp 82) = .bool false := evP ha 37 rfl (by simp [hpre]) (by simp) HD; have e111 : a.eval (.tmp 111) = .bool false := evP ha 66 rfl (by simp [hpre]) (by simp) HD; clear ha; have jb' := Lib.hid jb; clear jb; refine zab fun K HK => ?_; unfold Oper.wp; simp only [execOp, e82, e111]; go_simp; exact HK.out _ _ ⟨(), _, rfl, rfl, jb'.out⟩
        · intro _ L w' hL hpre hJ a ha
          have jb := hJ; simp [Region.binds] at hpre; refine .inl ⟨zaa rfl, ?_⟩; exact zah (.tmp 112) (.inl rfl) (.bool false) (evP ha 67 rfl (by simp [hpre]) (by simp) HD) ⟨(), _, rfl, rfl, jb⟩
        · intro _ L w' hL hpre hJ a ha
          have jb := hJ; simp [Region.binds] at hpre; refine .inl ⟨zae (g := 68) (t := 113) (b := false) rfl rfl (evP ha 68 rfl (by simp [hpre]) (by simp) HD), ?_⟩; exact zah (.tmp 11) (.inl rfl) (.bool true) (by rw [ha, zac rfl]; rfl) ⟨(), _, rfl, rfl, jb⟩
        · intro _ L w' hL hpre hJ a ha
          have jb := hJ; simp [Region.binds] at hpre; refine .inl ⟨zae (g := 68) (t := 113) (b := false) rfl rfl (evP ha 68 rfl (by simp [hpre]) (by simp) HD), ?_⟩; exact zah (.tmp 114) (.inl rfl) (.bool true) (evP ha 69 rfl (by simp [hpre]) (by simp) HD) ⟨(), _, rfl, rfl, jb⟩
        · intro _ L w' hL hpre hJ a ha
          have jb := hJ; simp [Region.binds] at hpre; refine .inl ⟨zae (g := 70) (t := 115) (b := true) rfl rfl (evP ha 70 rfl (by simp [hpre]) (by simp) HD), ?_⟩; exact zah (.tmp 6) (.inl rfl) (.pointer (some ⟨gt, 0, none⟩)) (by rw [ha, zac rfl]; rfl) ⟨(), _, rfl, rfl, jb⟩
        · intro _ L w' hL hpre hJ a ha
          have jb := hJ; simp [Region.binds] at hpre; refine .inl ⟨zae (g := 70) (t := 115) (b := true) rfl rfl (evP ha 70 rfl (by simp [hpre]) (by simp) HD), ?_⟩; exact zah (.tmp 10) (.inl rfl) (.int .i64 (β : Int)) (by rw [ha, zac rfl]; rfl) ⟨(), _, rfl, rfl, jb⟩
        · intro _ L w' hL hpre hJ a ha
          have jb := hJ; simp [Region.binds] at hpre; refine .inl ⟨zae (g := 70) (t := 115) (b := true) rfl rfl (evP ha 70 rfl (by simp [hpre]) (by simp) HD), ?_⟩; have e116 : a.eval (.tmp 116) = .pointer (some ⟨gt, 0, none⟩) := evP ha 71 rfl (by simp [hpre]) (by simp) HD; have e117 : a.eval (.tmp 117) = .int .i64 (β : Int) := evP ha 72 rfl (by simp [hpre]) (by simp) HD; clear ha; have jb' := Lib.hid jb; clear jb; refine zab fun K HK => ?_; unfold Oper.wp; simp only [execOp, resolve, List.map_toArray, List.map_cons, List.map_nil, e116, e117]; go_simp; refine ((HMk.out w' jb'.out)).mono ?_; rintro e w'' ⟨rfl, hb⟩; exact HK.out _ _ ⟨(), _, rfl, rfl, jb'.out.trans (hb.mono jb'.out.size)⟩
        · intro _ L w' hL hpre hJ a ha
          have jb := hJ; simp [Region.binds] at hpre; refine .inl ⟨zae (g := 70) (t := 115) (b := true) rfl rfl (evP ha 70 rfl (by simp [hpre]) (by simp) HD), ?_⟩; exact zah (.tmp 7) (.inl rfl) (.pointer (some ⟨WB, 0, none⟩)) (by rw [ha, zac rfl]; rfl) ⟨(), _, rfl, rfl, jb⟩
        · intro _ L w' hL hpre hJ a ha
          have jb := hJ; simp [Region.binds] at hpre; refine .inl ⟨zae (g := 70) (t := 115) (b := true) rfl rfl (evP ha 70 rfl (by simp [hpre]) (by simp) HD), ?_⟩; exact zah (.tmp 10) (.inl rfl) (.int .i64 (β : Int)) (by rw [ha, zac rfl]; rfl) ⟨(), _, rfl, rfl, jb⟩
        · intro _ L w' hL hpre hJ a ha
          have jb := hJ; simp [Region.binds] at hpre; refine .inl ⟨zae (g := 70) (t := 115) (b := true) rfl rfl (evP ha 70 rfl (by simp [hpre]) (by simp) HD), ?_⟩; have e119 : a.eval (.tmp 119) = .pointer (some ⟨WB, 0, none⟩) := evP ha 74 rfl (by simp [hpre]) (by simp) HD; have e120 : a.eval (.tmp 120) = .int .i64 (β : Int) := evP ha 75 rfl (by simp [hpre]) (by simp) HD; clear ha; have jb' := Lib.hid jb; clear jb; refine zab fun K HK => ?_; unfold Oper.wp; simp only [execOp, resolve, List.map_toArray, List.map_cons, List.map_nil, e119, e120]; go_simp; refine ((HRm.out w' jb'.out)).mono ?_; rintro e w'' ⟨rfl, hb⟩; exact HK.out _ _ ⟨(), _, rfl, rfl, jb'.out.trans (hb.mono jb'.out.size)⟩
        · intro _ L w' hL hpre hJ a ha
          have jb := hJ; simp [Region.binds] at hpre; refine .inl ⟨zae (g := 70) (t := 115) (b := true) rfl rfl (evP ha 70 rfl (by simp [hpre]) (by simp) HD), ?_⟩; have e118 : a.eval (.tmp 118) = .int .i64 (M : Int) := evP ha 73 rfl (by simp [hpre]) (by simp) HD; have e121 : a.eval (.tmp 121) = .int .i64 (M : Int) := evP ha 76 rfl (by simp [hpre]) (by simp) HD; clear ha; have jb' := Lib.hid jb; clear jb; refine zab fun K HK => ?_; unfold Oper.wp; simp only [execOp, e118, e121]; go_simp; exact HK.out _ _ ⟨(), _, rfl, rfl, jb'.out⟩
        · intro _ L w' hL hpre hJ a ha
          have jb := hJ; simp [Region.binds] at hpre; refine .inl ⟨zae (g := 70) (t := 115) (b := true) rfl rfl (evP ha 70 rfl (by simp [hpre]) (by simp) HD), ?_⟩; exact zah (.tmp 122) (.inl rfl) (.bool false) (evP ha 77 rfl (by simp [hpre]) (by simp) HD) ⟨(), _, rfl, rfl, jb⟩
        · intro _ L w' hL hpre hJ a ha
          have jb := hJ; simp [Region.binds] at hpre; refine .inl ⟨zae (g := 78) (t := 123) (b := false) rfl rfl (evP ha 78 rfl (by simp [hpre]) (by simp) HD), ?_⟩; exact zah (.tmp 6) (.inl rfl) (.pointer (some ⟨gt, 0, none⟩)) (by rw [ha, zac rfl]; rfl) ⟨(), _, rfl, rfl, jb⟩
        · intro _ L w' hL hpre hJ a ha
          have jb := hJ; simp [Region.binds] at hpre; refine .inl ⟨zae (g := 78) (t := 123) (b := false) rfl rfl (evP ha 78 rfl (by simp [hpre]) (by simp) HD), ?_⟩; exact zah (.tmp 10) (.inl rfl) (.int .i64 (β : Int)) (by rw [ha, zac rfl]; rfl) ⟨(), _, rfl, rfl, jb⟩
        · intro _ L w' hL hpre hJ a ha
          have jb := hJ; simp [Region.binds] at hpre; refine .inl ⟨zae (g := 78) (t := 123) (b := false) rfl rfl (evP ha 78 rfl (by simp [hpre]) (by simp) HD), ?_⟩; have e124 : a.eval (.tmp 124) = .pointer (some ⟨gt, 0, none⟩) := evP ha 79 rfl (by simp [hpre]) (by simp) HD; have e125 : a.eval (.tmp 125) = .int .i64 (β : Int) := evP ha 80 rfl (by simp [hpre]) (by simp) HD; clear ha; have jb' := Lib.hid jb; clear jb; refine zab fun K HK => ?_; unfold Oper.wp; simp only [execOp, resolve, List.map_toArray, List.map_cons, List.map_nil, e124, e125]; go_simp; refine ((HUs.out w' jb'.out)).mono ?_; rintro e w'' ⟨rfl, hb⟩; exact HK.out _ _ ⟨(), _, rfl, rfl, jb'.out.trans (hb.mono jb'.out.size)⟩
        · intro _ L w' hL hpre hJ a ha
          have jb := hJ; simp [Region.binds] at hpre; refine .inl ⟨zae (g := 78) (t := 123) (b := false) rfl rfl (evP ha 78 rfl (by simp [hpre]) (by simp) HD), ?_⟩; exact zah (.tmp 7) (.inl rfl) (.pointer (some ⟨WB, 0, none⟩)) (by rw [ha, zac rfl]; rfl) ⟨(), _, rfl, rfl, jb⟩
        · intro _ L w' hL hpre hJ a ha
          have jb := hJ; simp [Region.binds] at hpre; refine .inl ⟨zae (g := 78) (t := 123) (b := false) rfl rfl (evP ha 78 rfl (by simp [hpre]) (by simp) HD), ?_⟩; exact zah (.tmp 10) (.inl rfl) (.int .i64 (β : Int)) (by rw [ha, zac rfl]; rfl) ⟨(), _, rfl, rfl, jb⟩
        · intro _ L w' hL hpre hJ a ha
          have jb := hJ; simp [Region.binds] at hpre; refine .inl ⟨zae (g := 78) (t := 123) (b := false) rfl rfl (evP ha 78 rfl (by simp [hpre]) (by simp) HD), ?_⟩; have e127 : a.eval (.tmp 127) = .pointer (some ⟨WB, 0, none⟩) := evP ha 82 rfl (by simp [hpre]) (by simp) HD; have e128 : a.eval (.tmp 128) = .int .i64 (β : Int) := evP ha 83 rfl (by simp [hpre]) (by simp) HD; clear ha; have jb' := Lib.hid jb; clear jb; refine zab fun K HK => ?_; unfold Oper.wp; simp only [execOp, resolve, List.map_toArray, List.map_cons, List.map_nil, e127, e128]; go_simp; refine ((HRu.out w' jb'.out)).mono ?_; rintro e w'' ⟨rfl, hb⟩; exact HK.out _ _ ⟨(), _, rfl, rfl, jb'.out.trans (hb.mono jb'.out.size)⟩
        · intro _ L w' hL hpre hJ a ha
          have jb := hJ; simp [Region.binds] at hpre; refine .inl ⟨zae (g := 78) (t := 123) (b := false) rfl rfl (evP ha 78 rfl (by simp [hpre]) (by simp) HD), ?_⟩; have e126 : a.eval (.tmp 126) = .bool us := evP ha 81 rfl (by simp [hpre]) (by simp) HD; have e129 : a.eval (.tmp 129) = .bool us := evP ha 84 rfl (by simp [hpre]) (by simp) HD; clear ha; have hz := HNS.out; have jb' := Lib.hid jb; clear jb; refine zab fun K HK => ?_; unfold Oper.wp; simp only [execOp, e126, e129]; go_simp; exact HK.out _ _ ⟨(), _, rfl, rfl, jb'.out⟩
        · intro _ L w' hL hpre hJ a ha
          have jb := hJ; simp [Region.binds] at hpre; refine .inl ⟨zae (g := 70) (t := 115) (b := true) rfl rfl (evP ha 70 rfl (by simp [hpre]) (by simp) HD), ?_⟩; have e123 : a.eval (.tmp 123) = .bool false := evP ha 78 rfl (by simp [hpre]) (by simp) HD; have e130 : a.eval (.tmp 130) = .bool false := evP ha 85 rfl (by simp [hpre]) (by simp) HD; clear ha; have jb' := Lib.hid jb; clear jb; refine zab fun K HK => ?_; unfold Oper.wp; simp only [execOp, e123, e130]; go_simp; exact HK.out _ _ ⟨(), _, rfl, rfl, jb'.out⟩
        · intro _ L w' hL hpre hJ a ha
          have jb := hJ; simp [Region.binds] at hpre; refine .inl ⟨zae (g := 68) (t := 113) (b := false) rfl rfl (evP ha 68 rfl (by simp [hpre]) (by simp) HD), ?_⟩; have e115 : a.eval (.tmp 115) = .bool true := evP ha 70 rfl (by simp [hpre]) (by simp) HD; have e131 : a.eval (.tmp 131) = .bool false := evP ha 86 rfl (by simp [hpre]) (by simp) HD; clear ha; have jb' := Lib.hid jb; clear jb; refine zab fun K HK => ?_; unfold Oper.wp; simp only [execOp, e115, e131]; go_simp; exact HK.out _ _ ⟨(), _, rfl, rfl, jb'.out⟩
        · intro _ L w' hL hpre hJ a ha
          have jb := hJ; simp [Region.binds] at hpre; refine .inl ⟨zaa rfl, ?_⟩; have e113 : a.eval (.tmp 113) = .bool false := evP ha 68 rfl (by simp [hpre]) (by simp) HD; have e132 : a.eval (.tmp 132) = .bool false := evP ha 87 rfl (by simp [hpre]) (by simp) HD; clear ha; have jb' := Lib.hid jb; clear jb; refine zab fun K HK => ?_; unfold Oper.wp; simp only [execOp, e113, e132]; go_simp; exact HK.out _ _ ⟨(), _, rfl, rfl, jb'.out⟩
      · intro _ L w' hL hJ
        have jb := hJ; simp only [List.foldl_cons, List.foldl_nil]; have HBX := Lib.hid jb; clear jb hL; go_simp; go_wp2_with fail
        go_roundw
        case rel => exact ⟨(β : Int) + 1, by omega, by omega, rfl, HBX.out⟩
        case measure => simp [intOf]; omega
    · have hout : b < 0 ∨ (B : Int) ≤ b := by omega
      have HGO := Lib.hid (get_out HTA.out.ok (b := b) (by rw [HDM.out.2.1]; exact hout))
      have HWr := Lib.hid (show ∀ wz, Below wq.heap.size wq wz → Calls Tryz.prog 23 #[.pointer (some ⟨gt, 0, none⟩), .int .i64 b] wz fun e w' => e = .returned (.int .i64 0) ∧ Below wz.heap.size wz w' from fun wz h => by
       have := toB_same (tal.wear_any (HTA.out.below h) b); unfold Ty.wear at this; rw [HGO.out] at this; exact this)
      have HBl := Lib.hid (show ∀ wz, Below wq.heap.size wq wz → Calls Tryz.prog 35 #[.pointer (some ⟨gt, 0, none⟩), .int .i64 b] wz fun e w' => e = .returned (.bool false) ∧ Below wz.heap.size wz w' from fun wz h => by
       have := toB_same (tal.blank_any (HTA.out.below h) b); unfold Ty.blank at this; rw [HGO.out] at this; exact this)
      have HHe := Lib.hid (show ∀ wz, Below wq.heap.size wq wz → Calls Tryz.prog 36 #[.pointer (some ⟨gt, 0, none⟩), .int .i64 b] wz fun e w' => e = .returned (.bool false) ∧ Below wz.heap.size wz w' from fun wz h => by
       have := toB_same (tal.held_any (HTA.out.below h) b); unfold Ty.held at this; rw [HGO.out] at this; exact this)
      have HMk := Lib.hid (show ∀ wz, Below wq.heap.size wq wz → Calls Tryz.prog 32 #[.pointer (some ⟨gt, 0, none⟩), .int .i64 b] wz fun e w' => e = .returned (.int .i64 0) ∧ Below wz.heap.size wz w' from fun wz h => by
       have := toB_drew (tal.mask_any (HTA.out.below h) b); unfold Ty.mask at this; rw [HGO.out] at this; exact this)
      have HUs := Lib.hid (show ∀ wz, Below wq.heap.size wq wz → Calls Tryz.prog 34 #[.pointer (some ⟨gt, 0, none⟩), .int .i64 b] wz fun e w' => e = .returned (.bool false) ∧ Below wz.heap.size wz w' from fun wz h => by
       have := toB_drew (tal.usable_any (HTA.out.below h) b); have hm0 : Y.mask b = 0 := by unfold Ty.mask; rw [HGO.out]
       unfold Ty.usable at this; rw [hm0] at this; exact this)
      have HTO : Hid (b < 0 ∨ (0 ≤ b ∧ ¬ b < (B : Int))) := Lib.hid (by omega); clear hin hout; rcases HTO.out with hlt | ⟨hge0, hge⟩
      all_goals
       clear HTO; go_upto_region 9 with fail
       simp only [List.append_eq, List.cons_append, List.nil_append]; have HD : distinctB (([(some 45, .bool false), (some 46, .bool false), (some 47, undef), (some 48, undef), (some 49, undef), (some 50, undef), (some 51, undef), (some 52, undef), (some 53, undef), (some 54, undef), (some 55, undef), (some 56, undef), (some 57, undef), (some 58, undef), (some 59, undef), (some 60, undef), (some 61, undef), (some 62, undef), (some 63, undef), (some 64, undef), (some 65, undef), (some 66, undef), (some 67, undef), (some 68, undef), (some 69, undef), (some 70, undef), (some 71, undef), (some 72, undef), (some 73, undef), (some 74, undef), (some 75, undef), (some 76, undef), (some 77, undef), (some 78, undef), (some 79, undef), (some 80, undef), (some 81, .bool false), (some 82, .bool false), (some 83, .bool false), (some 84, .bool true), (some 85, .bool true), (some 86, .pointer (some ⟨gt, 0, none⟩)), (some 87, .int .i64 b), (some 88, .int .i64 0), (some 89, .bool false), (some 90, .bool false), (some 91, .pointer (some ⟨gt, 0, none⟩)), (some 92, .int .i64 b), (some 93, .int .i64 0), (some 94, .bool false), (some 95, .bool false), (some 96, .bool false), (some 97, .pointer (some ⟨gt, 0, none⟩)), (some 98, .int .i64 b), (some 99, .bool false), (some 100, .bool false), (some 101, .bool false), (some 102, .pointer (some ⟨gt, 0, none⟩)), (some 103, .int .i64 b), (some 104, .bool false), (some 105, .bool false), (some 106, .bool false), (some 107, .pointer (some ⟨gt, 0, none⟩)), (some 108, .int .i64 b), (some 109, .bool false), (some 110, .bool false), (some 111, .bool false), (some 112, .bool false), (some 113, .bool false), (some 114, .bool false), (some 115, .bool false), (some 116, undef), (some 117, undef), (some 118, undef), (some 119, undef), (some 120, undef), (some 121, undef), (some 122, undef), (some 123, undef), (some 124, undef), (some 125, undef), (some 126, undef), (some 127, undef), (some 128, undef), (some 129, undef), (some 130, undef), (some 131, undef), (some 132, .bool false), (some 133, .bool false)] : List (Option Tmp × Value)).map (·.1)) = true := by kernel_rfl
       refine zan (by kernel_rfl) (by kernel_rfl) (X := Unit) (fun _ => [(some 45, .bool false), (some 46, .bool false), (some 47, undef), (some 48, undef), (some 49, undef), (some 50, undef), (some 51, undef), (some 52, undef), (some 53, undef), (some 54, undef), (some 55, undef), (some 56, undef), (some 57, undef), (some 58, undef), (some 59, undef), (some 60, undef), (some 61, undef), (some 62, undef), (some 63, undef), (some 64, undef), (some 65, undef), (some 66, undef), (some 67, undef), (some 68, undef), (some 69, undef), (some 70, undef), (some 71, undef), (some 72, undef), (some 73, undef), (some 74, undef), (some 75, undef), (some 76, undef), (some 77, undef), (some 78, undef), (some 79, undef), (some 80, undef), (some 81, .bool false), (some 82, .bool false), (some 83, .bool false), (some 84, .bool true), (some 85, .bool true), (some 86, .pointer (some ⟨gt, 0, none⟩)), (some 87, .int .i64 b), (some 88, .int .i64 0), (some 89, .bool false), (some 90, .bool false), (some 91, .pointer (some ⟨gt, 0, none⟩)), (some 92, .int .i64 b), (some 93, .int .i64 0), (some 94, .bool false), (some 95, .bool false), (some 96, .bool false), (some 97, .pointer (some ⟨gt, 0, none⟩)), (some 98, .int .i64 b), (some 99, .bool false), (some 100, .bool false), (some 101, .bool false), (some 102, .pointer (some ⟨gt, 0, none⟩)), (some 103, .int .i64 b), (some 104, .bool false), (some 105, .bool false), (some 106, .bool false), (some 107, .pointer (some ⟨gt, 0, none⟩)), (some 108, .int .i64 b), (some 109, .bool false), (some 110, .bool false), (some 111, .bool false), (some 112, .bool false), (some 113, .bool false), (some 114, .bool false), (some 115, .bool false), (some 116, undef), (some 117, undef), (some 118, undef), (some 119, undef), (some 120, undef), (some 121, undef), (some 122, undef), (some 123, undef), (some 124, undef), (some 125, undef), (some 126, undef), (some 127, undef), (some 128, undef), (some 129, undef), (some 130, undef), (some 131, undef), (some 132, .bool false), (some 133, .bool false)])
        (fun _ L w' => Below wq.heap.size wq w') (fun _ => rfl) (by kernel_rfl) ⟨(), fun L hL => HBJ.out.drew⟩ ?_ ?_
       · refine ⟨?_, ?_, ?_, ?_, ?_, ?_, ?_, ?_, ?_, ?_, ?_, ?_, ?_, ?_, ?_, ?_, ?_, ?_, ?_, ?_, ?_, ?_, ?_, ?_, ?_, ?_, ?_, ?_, ?_, ?_, ?_, ?_, ?_, ?_, ?_, ?_, ?_, ?_, ?_, ?_, ?_, ?_, ?_, ?_, ?_, ?_, ?_, ?_, ?_, ?_, ?_, ?_, ?_, ?_, ?_, ?_, ?_, ?_, ?_, ?_, ?_, ?_, ?_, ?_, ?_, ?_, ?_, ?_, ?_, ?_, ?_, ?_, ?_, ?_, ?_, ?_, ?_, ?_, ?_, ?_, ?_, ?_, ?_, ?_, ?_, ?_, ?_, ?_, ?_, trivial⟩
         · intro _ L w' hL hpre hJ a ha
           have jb := hJ; simp [Region.binds] at hpre; refine .inl ⟨zaa rfl, ?_⟩; exact zah (.tmp 11) (.inl rfl) (.bool false) (by rw [ha, zac rfl]; rfl) ⟨(), _, rfl, rfl, jb⟩
         · intro _ L w' hL hpre hJ a ha
           have jb := hJ; simp [Region.binds] at hpre; refine .inl ⟨zaa rfl, ?_⟩; exact zah (.tmp 45) (.inl rfl) (.bool false) (evP ha 0 rfl (by simp [hpre]) (by simp) HD) ⟨(), _, rfl, rfl, jb⟩
         · intro _ L w' hL hpre hJ a ha
           have jb := hJ; simp [Region.binds] at hpre; exact .inr ⟨zap (g := 1) (t := 46) (b := true) rfl rfl (evP ha 1 rfl (by simp [hpre]) (by simp) HD), (), rfl, jb⟩
         · intro _ L w' hL hpre hJ a ha
           have jb := hJ; simp [Region.binds] at hpre; exact .inr ⟨zap (g := 1) (t := 46) (b := true) rfl rfl (evP ha 1 rfl (by simp [hpre]) (by simp) HD), (), rfl, jb⟩
         · intro _ L w' hL hpre hJ a ha
           have jb := hJ; simp [Region.binds] at hpre; exact .inr ⟨zap (g := 1) (t := 46) (b := true) rfl rfl (evP ha 1 rfl (by simp [hpre]) (by simp) HD), (), rfl, jb⟩
         · intro _ L w' hL hpre hJ a ha
           have jb := hJ; simp [Region.binds] at hpre; exact .inr ⟨zap (g := 1) (t := 46) (b := true) rfl rfl (evP ha 1 rfl (by simp [hpre]) (by simp) HD), (), rfl, jb⟩
         · intro _ L w' hL hpre hJ a ha
           have jb := hJ; simp [Region.binds] at hpre; exact .inr ⟨zap (g := 1) (t := 46) (b := true) rfl rfl (evP ha 1 rfl (by simp [hpre]) (by simp) HD), (), rfl, jb⟩
         · intro _ L w' hL hpre hJ a ha
           have jb := hJ; simp [Region.binds] at hpre; exact .inr ⟨zap (g := 1) (t := 46) (b := true) rfl rfl (evP ha 1 rfl (by simp [hpre]) (by simp) HD), (), rfl, jb⟩
         · intro _ L w' hL hpre hJ a ha
           have jb := hJ; simp [Region.binds] at hpre; exact .inr ⟨zap (g := 1) (t := 46) (b := true) rfl rfl (evP ha 1 rfl (by simp [hpre]) (by simp) HD), (), rfl, jb⟩
         · intro _ L w' hL hpre hJ a ha
           have jb := hJ; simp [Region.binds] at hpre; exact .inr ⟨zap (g := 1) (t := 46) (b := true) rfl rfl (evP ha 1 rfl (by simp [hpre]) (by simp) HD), (), rfl, jb⟩
         · intro _ L w' hL hpre hJ a ha
           have jb := hJ; simp [Region.binds] at hpre; exact .inr ⟨zap (g := 1) (t := 46) (b := true) rfl rfl (evP ha 1 rfl (by simp [hpre]) (by simp) HD), (), rfl, jb⟩
         · intro _ L w' hL hpre hJ a ha
           have jb := hJ; simp [Region.binds] at hpre; exact .inr ⟨zap (g := 1) (t := 46) (b := true) rfl rfl (evP ha 1 rfl (by simp [hpre]) (by simp) HD), (), rfl, jb⟩
         · intro _ L w' hL hpre hJ a ha
           have jb := hJ; simp [Region.binds] at hpre; exact .inr ⟨zap (g := 1) (t := 46) (b := true) rfl rfl (evP ha 1 rfl (by simp [hpre]) (by simp) HD), (), rfl, jb⟩
         · intro _ L w' hL hpre hJ a ha
           have jb := hJ; simp [Region.binds] at hpre; exact .inr ⟨zaq (g := 12) (t := 57) (b := false) rfl rfl (evP ha 12 rfl (by simp [hpre]) (by simp) HD), (), rfl, jb⟩
         · intro _ L w' hL hpre hJ a ha
           have jb := hJ; simp [Region.binds] at hpre; exact .inr ⟨zaq (g := 12) (t := 57) (b := false) rfl rfl (evP ha 12 rfl (by simp [hpre]) (by simp) HD), (), rfl, jb⟩
         · intro _ L w' hL hpre hJ a ha
           have jb := hJ; simp [Region.binds] at hpre; exact .inr ⟨zaq (g := 12) (t := 57) (b := false) rfl rfl (evP ha 12 rfl (by simp [hpre]) (by simp) HD), (), rfl, jb⟩
         · intro _ L w' hL hpre hJ a ha
           have jb := hJ; simp [Region.binds] at hpre; exact .inr ⟨zaq (g := 12) (t := 57) (b := false) rfl rfl (evP ha 12 rfl (by simp [hpre]) (by simp) HD), (), rfl, jb⟩
         · intro _ L w' hL hpre hJ a ha
           have jb := hJ; simp [Region.binds] at hpre; exact .inr ⟨zaq (g := 12) (t := 57) (b := false) rfl rfl (evP ha 12 rfl (by simp [hpre]) (by simp) HD), (), rfl, jb⟩
         · intro _ L w' hL hpre hJ a ha
           have jb := hJ; simp [Region.binds] at hpre; exact .inr ⟨zaq (g := 12) (t := 57) (b := false) rfl rfl (evP ha 12 rfl (by simp [hpre]) (by simp) HD), (), rfl, jb⟩
         · intro _ L w' hL hpre hJ a ha
           have jb := hJ; simp [Region.binds] at hpre; exact .inr ⟨zaq (g := 12) (t := 57) (b := false) rfl rfl (evP ha 12 rfl (by simp [hpre]) (by simp) HD), (), rfl, jb⟩
         · intro _ L w' hL hpre hJ a ha
           have jb := hJ; simp [Region.binds] at hpre; exact .inr ⟨zaq (g := 12) (t := 57) (b := false) rfl rfl (evP ha 12 rfl (by simp [hpre]) (by simp) HD), (), rfl, jb⟩
         · intro _ L w' hL hpre hJ a ha
           have jb := hJ; simp [Region.binds] at hpre; exact .inr ⟨zaq (g := 12) (t := 57) (b := false) rfl rfl (evP ha 12 rfl (by simp [hpre]) (by simp) HD), (), rfl, jb⟩
         · intro _ L w' hL hpre hJ a ha
           have jb := hJ; simp [Region.binds] at hpre; exact .inr ⟨zaq (g := 12) (t := 57) (b := false) rfl rfl (evP ha 12 rfl (by simp [hpre]) (by simp) HD), (), rfl, jb⟩
         · intro _ L w' hL hpre hJ a ha
           have jb := hJ; simp [Region.binds] at hpre; exact .inr ⟨zap (g := 1) (t := 46) (b := true) rfl rfl (evP ha 1 rfl (by simp [hpre]) (by simp) HD), (), rfl, jb⟩
         · intro _ L w' hL hpre hJ a ha
           have jb := hJ; simp [Region.binds] at hpre; exact .inr ⟨zap (g := 1) (t := 46) (b := true) rfl rfl (evP ha 1 rfl (by simp [hpre]) (by simp) HD), (), rfl, jb⟩
         · intro _ L w' hL hpre hJ a ha
           have jb := hJ; simp [Region.binds] at hpre; exact .inr ⟨zaq (g := 24) (t := 69) (b := false) rfl rfl (evP ha 24 rfl (by simp [hpre]) (by simp) HD), (), rfl, jb⟩
         · intro _ L w' hL hpre hJ a ha
           have jb := hJ; simp [Region.binds] at hpre; exact .inr ⟨zaq (g := 24) (t := 69) (b := false) rfl rfl (evP ha 24 rfl (by simp [hpre]) (by simp) HD), (), rfl, jb⟩
         · intro _ L w' hL hpre hJ a ha
           have jb := hJ; simp [Region.binds] at hpre; exact .inr ⟨zaq (g := 24) (t := 69) (b := false) rfl rfl (evP ha 24 rfl (by simp [hpre]) (by simp) HD), (), rfl, jb⟩
         · intro _ L w' hL hpre hJ a ha
           have jb := hJ; simp [Region.binds] at hpre; exact .inr ⟨zaq (g := 24) (t := 69) (b := false) rfl rfl (evP ha 24 rfl (by simp [hpre]) (by simp) HD), (), rfl, jb⟩
         · intro _ L w' hL hpre hJ a ha
           have jb := hJ; simp [Region.binds] at hpre; exact .inr ⟨zaq (g := 24) (t := 69) (b := false) rfl rfl (evP ha 24 rfl (by simp [hpre]) (by simp) HD), (), rfl, jb⟩
         · intro _ L w' hL hpre hJ a ha
           have jb := hJ; simp [Region.binds] at hpre; exact .inr ⟨zaq (g := 24) (t := 69) (b := false) rfl rfl (evP ha 24 rfl (by simp [hpre]) (by simp) HD), (), rfl, jb⟩
         · intro _ L w' hL hpre hJ a ha
           have jb := hJ; simp [Region.binds] at hpre; exact .inr ⟨zaq (g := 24) (t := 69) (b := false) rfl rfl (evP ha 24 rfl (by simp [hpre]) (by simp) HD), (), rfl, jb⟩
         · intro _ L w' hL hpre hJ a ha
           have jb := hJ; simp [Region.binds] at hpre; exact .inr ⟨zaq (g := 24) (t := 69) (b := false) rfl rfl (evP ha 24 rfl (by simp [hpre]) (by simp) HD), (), rfl, jb⟩
         · intro _ L w' hL hpre hJ a ha
           have jb := hJ; simp [Region.binds] at hpre; exact .inr ⟨zaq (g := 24) (t := 69) (b := false) rfl rfl (evP ha 24 rfl (by simp [hpre]) (by simp) HD), (), rfl, jb⟩
         · intro _ L w' hL hpre hJ a ha
           have jb := hJ; simp [Region.binds] at hpre; exact .inr ⟨zaq (g := 24) (t := 69) (b := false) rfl rfl (evP ha 24 rfl (by simp [hpre]) (by simp) HD), (), rfl, jb⟩
         · intro _ L w' hL hpre hJ a ha
           have jb := hJ; simp [Region.binds] at hpre; exact .inr ⟨zap (g := 1) (t := 46) (b := true) rfl rfl (evP ha 1 rfl (by simp [hpre]) (by simp) HD), (), rfl, jb⟩
         · intro _ L w' hL hpre hJ a ha
           have jb := hJ; simp [Region.binds] at hpre; refine .inl ⟨zaa rfl, ?_⟩; have e46 : a.eval (.tmp 46) = .bool false := evP ha 1 rfl (by simp [hpre]) (by simp) HD; clear ha; have jb' := Lib.hid jb; clear jb; refine zab fun K HK => ?_; unfold Oper.wp; simp only [execOp, e46]; go_simp; exact HK.out _ _ ⟨(), _, rfl, rfl, jb'.out⟩
         · intro _ L w' hL hpre hJ a ha
           have jb := hJ; simp [Region.binds] at hpre; refine .inl ⟨zaa rfl, ?_⟩; exact zah (.tmp 81) (.inl rfl) (.bool false) (evP ha 36 rfl (by simp [hpre]) (by simp) HD) ⟨(), _, rfl, rfl, jb⟩
         · intro _ L w' hL hpre hJ a ha
           have jb := hJ; simp [Region.binds] at hpre; refine .inl ⟨zae (g := 37) (t := 82) (b := false) rfl rfl (evP ha 37 rfl (by simp [hpre]) (by simp) HD), ?_⟩; exact zah (.tmp 11) (.inl rfl) (.bool false) (by rw [ha, zac rfl]; rfl) ⟨(), _, rfl, rfl, jb⟩
         · intro _ L w' hL hpre hJ a ha
           have jb := hJ; simp [Region.binds] at hpre; refine .inl ⟨zae (g := 37) (t := 82) (b := false) rfl rfl (evP ha 37 rfl (by simp [hpre]) (by simp) HD), ?_⟩; have e83 : a.eval (.tmp 83) = .bool false := evP ha 38 rfl (by simp [hpre]) (by simp) HD; clear ha; have jb' := Lib.hid jb; clear jb; refine zab fun K HK => ?_; unfold Oper.wp; simp only [execOp, e83]; go_simp; exact HK.out _ _ ⟨(), _, rfl, rfl, jb'.out⟩
         · intro _ L w' hL hpre hJ a ha
           have jb := hJ; simp [Region.binds] at hpre; refine .inl ⟨zae (g := 37) (t := 82) (b := false) rfl rfl (evP ha 37 rfl (by simp [hpre]) (by simp) HD), ?_⟩; exact zah (.tmp 84) (.inl rfl) (.bool true) (evP ha 39 rfl (by simp [hpre]) (by simp) HD) ⟨(), _, rfl, rfl, jb⟩
         · intro _ L w' hL hpre hJ a ha
           have jb := hJ; simp [Region.binds] at hpre; refine .inl ⟨zae (g := 40) (t := 85) (b := true) rfl rfl (evP ha 40 rfl (by simp [hpre]) (by simp) HD), ?_⟩; exact zah (.tmp 6) (.inl rfl) (.pointer (some ⟨gt, 0, none⟩)) (by rw [ha, zac rfl]; rfl) ⟨(), _, rfl, rfl, jb⟩
         · intro _ L w' hL hpre hJ a ha
           have jb := hJ; simp [Region.binds] at hpre; refine .inl ⟨zae (g := 40) (t := 85) (b := true) rfl rfl (evP ha 40 rfl (by simp [hpre]) (by simp) HD), ?_⟩; exact zah (.tmp 10) (.inl rfl) (.int .i64 b) (by rw [ha, zac rfl]; rfl) ⟨(), _, rfl, rfl, jb⟩
         · intro _ L w' hL hpre hJ a ha
           have jb := hJ; simp [Region.binds] at hpre; refine .inl ⟨zae (g := 40) (t := 85) (b := true) rfl rfl (evP ha 40 rfl (by simp [hpre]) (by simp) HD), ?_⟩; have e86 : a.eval (.tmp 86) = .pointer (some ⟨gt, 0, none⟩) := evP ha 41 rfl (by simp [hpre]) (by simp) HD; have e87 : a.eval (.tmp 87) = .int .i64 b := evP ha 42 rfl (by simp [hpre]) (by simp) HD; clear ha; have jb' := Lib.hid jb; clear jb; refine zab fun K HK => ?_; unfold Oper.wp; simp only [execOp, resolve, List.map_toArray, List.map_cons, List.map_nil, e86, e87]; go_simp; refine ((HWr.out w' jb'.out)).mono ?_; rintro e w'' ⟨rfl, hb⟩; exact HK.out _ _ ⟨(), _, rfl, rfl, jb'.out.trans (hb.mono jb'.out.size)⟩
         · intro _ L w' hL hpre hJ a ha
           have jb := hJ; simp [Region.binds] at hpre; refine .inl ⟨zae (g := 40) (t := 85) (b := true) rfl rfl (evP ha 40 rfl (by simp [hpre]) (by simp) HD), ?_⟩; have e88 : a.eval (.tmp 88) = .int .i64 0 := evP ha 43 rfl (by simp [hpre]) (by simp) HD; clear ha; have jb' := Lib.hid jb; clear jb; refine zab fun K HK => ?_; unfold Oper.wp; simp only [execOp, e88]; go_simp; exact HK.out _ _ ⟨(), _, rfl, rfl, jb'.out⟩
         · intro _ L w' hL hpre hJ a ha
           have jb := hJ; simp [Region.binds] at hpre; refine .inl ⟨zae (g := 40) (t := 85) (b := true) rfl rfl (evP ha 40 rfl (by simp [hpre]) (by simp) HD), ?_⟩; exact zah (.tmp 89) (.inl rfl) (.bool false) (evP ha 44 rfl (by simp [hpre]) (by simp) HD) ⟨(), _, rfl, rfl, jb⟩
         · intro _ L w' hL hpre hJ a ha
           have jb := hJ; simp [Region.binds] at hpre; refine .inl ⟨zae (g := 45) (t := 90) (b := false) rfl rfl (evP ha 45 rfl (by simp [hpre]) (by simp) HD), ?_⟩; exact zah (.tmp 6) (.inl rfl) (.pointer (some ⟨gt, 0, none⟩)) (by rw [ha, zac rfl]; rfl) ⟨(), _, rfl, rfl, jb⟩
         · intro _ L w' hL hpre hJ a ha
           have jb := hJ; simp [Region.binds] at hpre; refine .inl ⟨zae (g := 45) (t := 90) (b := false) rfl rfl (evP ha 45 rfl (by simp [hpre]) (by simp) HD), ?_⟩; exact zah (.tmp 10) (.inl rfl) (.int .i64 b) (by rw [ha, zac rfl]; rfl) ⟨(), _, rfl, rfl, jb⟩
         · intro _ L w' hL hpre hJ a ha
           have jb := hJ; simp [Region.binds] at hpre; refine .inl ⟨zae (g := 45) (t := 90) (b := false) rfl rfl (evP ha 45 rfl (by simp [hpre]) (by simp) HD), ?_⟩; have e91 : a.eval (.tmp 91) = .pointer (some ⟨gt, 0, none⟩) := evP ha 46 rfl (by simp [hpre]) (by simp) HD; have e92 : a.eval (.tmp 92) = .int .i64 b := evP ha 47 rfl (by simp [hpre]) (by simp) HD; clear ha; have jb' := Lib.hid jb; clear jb; refine zab fun K HK => ?_; unfold Oper.wp; simp only [execOp, resolve, List.map_toArray, List.map_cons, List.map_nil, e91, e92]; go_simp; refine ((HMk.out w' jb'.out)).mono ?_; rintro e w'' ⟨rfl, hb⟩; exact HK.out _ _ ⟨(), _, rfl, rfl, jb'.out.trans (hb.mono jb'.out.size)⟩
         · intro _ L w' hL hpre hJ a ha
           have jb := hJ; simp [Region.binds] at hpre; refine .inl ⟨zae (g := 45) (t := 90) (b := false) rfl rfl (evP ha 45 rfl (by simp [hpre]) (by simp) HD), ?_⟩; have e93 : a.eval (.tmp 93) = .int .i64 0 := evP ha 48 rfl (by simp [hpre]) (by simp) HD; clear ha; have jb' := Lib.hid jb; clear jb; refine zab fun K HK => ?_; unfold Oper.wp; simp only [execOp, e93]; go_simp; exact HK.out _ _ ⟨(), _, rfl, rfl, jb'.out⟩
         · intro _ L w' hL hpre hJ a ha
           have jb := hJ; simp [Region.binds] at hpre; refine .inl ⟨zae (g := 40) (t := 85) (b := true) rfl rfl (evP ha 40 rfl (by simp [hpre]) (by simp) HD), ?_⟩; have e90 : a.eval (.tmp 90) = .bool false := evP ha 45 rfl (by simp [hpre]) (by simp) HD; have e94 : a.eval (.tmp 94) = .bool false := evP ha 49 rfl (by simp [hpre]) (by simp) HD; clear ha; have jb' := Lib.hid jb; clear jb; refine zab fun K HK => ?_; unfold Oper.wp; simp only [execOp, e90, e94]; go_simp; exact HK.out _ _ ⟨(), _, rfl, rfl, jb'.out⟩
         · intro _ L w' hL hpre hJ a ha
           have jb := hJ; simp [Region.binds] at hpre; refine .inl ⟨zae (g := 40) (t := 85) (b := true) rfl rfl (evP ha 40 rfl (by simp [hpre]) (by simp) HD), ?_⟩; exact zah (.tmp 95) (.inl rfl) (.bool false) (evP ha 50 rfl (by simp [hpre]) (by simp) HD) ⟨(), _, rfl, rfl, jb⟩
         · intro _ L w' hL hpre hJ a ha
           have jb := hJ; simp [Region.binds] at hpre; refine .inl ⟨zae (g := 51) (t := 96) (b := false) rfl rfl (evP ha 51 rfl (by simp [hpre]) (by simp) HD), ?_⟩; exact zah (.tmp 6) (.inl rfl) (.pointer (some ⟨gt, 0, none⟩)) (by rw [ha, zac rfl]; rfl) ⟨(), _, rfl, rfl, jb⟩
         · intro _ L w' hL hpre hJ a ha
           have jb := hJ; simp [Region.binds] at hpre; refine .inl ⟨zae (g := 51) (t := 96) (b := false) rfl rfl (evP ha 51 rfl (by simp [hpre]) (by simp) HD), ?_⟩; exact zah (.tmp 10) (.inl rfl) (.int .i64 b) (by rw [ha, zac rfl]; rfl) ⟨(), _, rfl, rfl, jb⟩
         · intro _ L w' hL hpre hJ a ha
           have jb := hJ; simp [Region.binds] at hpre; refine .inl ⟨zae (g := 51) (t := 96) (b := false) rfl rfl (evP ha 51 rfl (by simp [hpre]) (by simp) HD), ?_⟩; have e97 : a.eval (.tmp 97) = .pointer (some ⟨gt, 0, none⟩) := evP ha 52 rfl (by simp [hpre]) (by simp) HD; have e98 : a.eval (.tmp 98) = .int .i64 b := evP ha 53 rfl (by simp [hpre]) (by simp) HD; clear ha; have jb' := Lib.hid jb; clear jb; refine zab fun K HK => ?_; unfold Oper.wp; simp only [execOp, resolve, List.map_toArray, List.map_cons, List.map_nil, e97, e98]; go_simp; refine ((HUs.out w' jb'.out)).mono ?_; rintro e w'' ⟨rfl, hb⟩; exact HK.out _ _ ⟨(), _, rfl, rfl, jb'.out.trans (hb.mono jb'.out.size)⟩
         · intro _ L w' hL hpre hJ a ha
           have jb := hJ; simp [Region.binds] at hpre; refine .inl ⟨zae (g := 40) (t := 85) (b := true) rfl rfl (evP ha 40 rfl (by simp [hpre]) (by simp) HD), ?_⟩; have e96 : a.eval (.tmp 96) = .bool false := evP ha 51 rfl (by simp [hpre]) (by simp) HD; have e99 : a.eval (.tmp 99) = .bool false := evP ha 54 rfl (by simp [hpre]) (by simp) HD; clear ha; have jb' := Lib.hid jb; clear jb; refine zab fun K HK => ?_; unfold Oper.wp; simp only [execOp, e96, e99]; go_simp; exact HK.out _ _ ⟨(), _, rfl, rfl, jb'.out⟩
         · intro _ L w' hL hpre hJ a ha
           have jb := hJ; simp [Region.binds] at hpre; refine .inl ⟨zae (g := 40) (t := 85) (b := true) rfl rfl (evP ha 40 rfl (by simp [hpre]) (by simp) HD), ?_⟩; exact zah (.tmp 100) (.inl rfl) (.bool false) (evP ha 55 rfl (by simp [hpre]) (by simp) HD) ⟨(), _, rfl, rfl, jb⟩
         · intro _ L w' hL hpre hJ a ha
           have jb := hJ; simp [Region.binds] at hpre; refine .inl ⟨zae (g := 56) (t := 101) (b := false) rfl rfl (evP ha 56 rfl (by simp [hpre]) (by simp) HD), ?_⟩; exact zah (.tmp 6) (.inl rfl) (.pointer (some ⟨gt, 0, none⟩)) (by rw [ha, zac rfl]; rfl) ⟨(), _, rfl, rfl, jb⟩
         · intro _ L w' hL hpre hJ a ha
           have jb := hJ; simp [Region.binds] at hpre; refine .inl ⟨zae (g := 56) (t := 101) (b := false) rfl rfl (evP ha 56 rfl (by simp [hpre]) (by simp) HD), ?_⟩; exact zah (.tmp 10) (.inl rfl) (.int .i64 b) (by rw [ha, zac rfl]; rfl) ⟨(), _, rfl, rfl, jb⟩
         · intro _ L w' hL hpre hJ a ha
           have jb := hJ; simp [Region.binds] at hpre; refine .inl ⟨zae (g := 56) (t := 101) (b := false) rfl rfl (evP ha 56 rfl (by simp [hpre]) (by simp) HD), ?_⟩; have e102 : a.eval (.tmp 102) = .pointer (some ⟨gt, 0, none⟩) := evP ha 57 rfl (by simp [hpre]) (by simp) HD; have e103 : a.eval (.tmp 103) = .int .i64 b := evP ha 58 rfl (by simp [hpre]) (by simp) HD; clear ha; have jb' := Lib.hid jb; clear jb; refine zab fun K HK => ?_; unfold Oper.wp; simp only [execOp, resolve, List.map_toArray, List.map_cons, List.map_nil, e102, e103]; go_simp; refine ((HBl.out w' jb'.out)).mono ?_; rintro e w'' ⟨rfl, hb⟩; exact HK.out _ _ ⟨(), _, rfl, rfl, jb'.out.trans (hb.mono jb'.out.size)⟩
         · intro _ L w' hL hpre hJ a ha
           have jb := hJ; simp [Region.binds] at hpre; refine .inl ⟨zae (g := 40) (t := 85) (b := true) rfl rfl (evP ha 40 rfl (by simp [hpre]) (by simp) HD), ?_⟩; have e101 : a.eval (.tmp 101) = .bool false := evP ha 56 rfl (by simp [hpre]) (by simp) HD; have e104 : a.eval (.tmp 104) = .bool false := evP ha 59 rfl (by simp [hpre]) (by simp) HD; clear ha; have jb' := Lib.hid jb; clear jb; refine zab fun K HK => ?_; unfold Oper.wp; simp only [execOp, e101, e104]; go_simp; exact HK.out _ _ ⟨(), _, rfl, rfl, jb'.out⟩
         · intro _ L w' hL hpre hJ a ha
           have jb := hJ; simp [Region.binds] at hpre; refine .inl ⟨zae (g := 40) (t := 85) (b := true) rfl rfl (evP ha 40 rfl (by simp [hpre]) (by simp) HD), ?_⟩; exact zah (.tmp 105) (.inl rfl) (.bool false) (evP ha 60 rfl (by simp [hpre]) (by simp) HD) ⟨(), _, rfl, rfl, jb⟩
         · intro _ L w' hL hpre hJ a ha
           have jb := hJ; simp [Region.binds] at hpre; refine .inl ⟨zae (g := 61) (t := 106) (b := false) rfl rfl (evP ha 61 rfl (by simp [hpre]) (by simp) HD), ?_⟩; exact zah (.tmp 6) (.inl rfl) (.pointer (some ⟨gt, 0, none⟩)) (by rw [ha, zac rfl]; rfl) ⟨(), _, rfl, rfl, jb⟩
         · intro _ L w' hL hpre hJ a ha
           have jb := hJ; simp [Region.binds] at hpre; refine .inl ⟨zae (g := 61) (t := 106) (b := false) rfl rfl (evP ha 61 rfl (by simp [hpre]) (by simp) HD), ?_⟩; exact zah (.tmp 10) (.inl rfl) (.int .i64 b) (by rw [ha, zac rfl]; rfl) ⟨(), _, rfl, rfl, jb⟩
         · intro _ L w' hL hpre hJ a ha
           have jb := hJ; simp [Region.binds] at hpre; refine .inl ⟨zae (g := 61) (t := 106) (b := false) rfl rfl (evP ha 61 rfl (by simp [hpre]) (by simp) HD), ?_⟩; have e107 : a.eval (.tmp 107) = .pointer (some ⟨gt, 0, none⟩) := evP ha 62 rfl (by simp [hpre]) (by simp) HD; have e108 : a.eval (.tmp 108) = .int .i64 b := evP ha 63 rfl (by simp [hpre]) (by simp) HD; clear ha; have jb' := Lib.hid jb; clear jb; refine zab fun K HK => ?_; unfold Oper.wp; simp only [execOp, resolve, List.map_toArray, List.map_cons, List.map_nil, e107, e108]; go_simp; refine ((HHe.out w' jb'.out)).mono ?_; rintro e w'' ⟨rfl, hb⟩; exact HK.out _ _ ⟨(), _, rfl, rfl, jb'.out.trans (hb.mono jb'.out.size)⟩
         · intro _ L w' hL hpre hJ a ha
           have jb := hJ; simp [Region.binds] at hpre; refine .inl ⟨zae (g := 40) (t := 85) (b := true) rfl rfl (evP ha 40 rfl (by simp [hpre]) (by simp) HD), ?_⟩; have e106 : a.eval (.tmp 106) = .bool false := evP ha 61 rfl (by simp [hpre]) (by simp) HD; have e109 : a.eval (.tmp 109) = .bool false := evP ha 64 rfl (by simp [hpre]) (by simp) HD; clear ha; have jb' := Lib.hid jb; clear jb; refine zab fun K HK => ?_; unfold Oper.wp; simp only [execOp, e106, e109]; go_simp; exact HK.out _ _ ⟨(), _, rfl, rfl, jb'.out⟩
         · intro _ L w' hL hpre hJ a ha
           have jb := hJ; simp [Region.binds] at hpre; refine .inl ⟨zae (g := 37) (t := 82) (b := false) rfl rfl (evP ha 37 rfl (by simp [hpre]) (by simp) HD), ?_⟩; have e85 : a.eval (.tmp 85) = .bool true := evP ha 40 rfl (by simp [hpre]) (by simp) HD; have e110 : a.eval (.tmp 110) = .bool false := evP ha 65 rfl (by simp [hpre]) (by simp) HD; clear ha; have jb' := Lib.hid jb; clear jb; refine zab fun K HK => ?_; unfold Oper.wp; simp only [execOp, e85, e110]; go_simp; exact HK.out _ _ ⟨(), _, rfl, rfl, jb'.out⟩
         · intro _ L w' hL hpre hJ a ha
           have jb := hJ; simp [Region.binds] at hpre; refine .inl ⟨zaa rfl, ?_⟩; have e82 : a.eval (.tmp 82) = .bool false := evP ha 37 rfl (by simp [hpre]) (by simp) HD; have e111 : a.eval (.tmp 111) = .bool false := evP ha 66 rfl (by simp [hpre]) (by simp) HD; clear ha; have jb' := Lib.hid jb; clear jb; refine zab fun K HK => ?_; unfold Oper.wp; simp only [execOp, e82, e111]; go_simp; exact HK.out _ _ ⟨(), _, rfl, rfl, jb'.out⟩
         · intro _ L w' hL hpre hJ a ha
           have jb := hJ; simp [Region.binds] at hpre; refine .inl ⟨zaa rfl, ?_⟩; exact zah (.tmp 112) (.inl rfl) (.bool false) (evP ha 67 rfl (by simp [hpre]) (by simp) HD) ⟨(), _, rfl, rfl, jb⟩
         · intro _ L w' hL hpre hJ a ha
           have jb := hJ; simp [Region.binds] at hpre; refine .inl ⟨zae (g := 68) (t := 113) (b := false) rfl rfl (evP ha 68 rfl (by simp [hpre]) (by simp) HD), ?_⟩; exact zah (.tmp 11) (.inl rfl) (.bool false) (by rw [ha, zac rfl]; rfl) ⟨(), _, rfl, rfl, jb⟩
         · intro _ L w' hL hpre hJ a ha
           have jb := hJ; simp [Region.binds] at hpre; refine .inl ⟨zae (g := 68) (t := 113) (b := false) rfl rfl (evP ha 68 rfl (by simp [hpre]) (by simp) HD), ?_⟩; exact zah (.tmp 114) (.inl rfl) (.bool false) (evP ha 69 rfl (by simp [hpre]) (by simp) HD) ⟨(), _, rfl, rfl, jb⟩
         · intro _ L w' hL hpre hJ a ha
           have jb := hJ; simp [Region.binds] at hpre; exact .inr ⟨zap (g := 70) (t := 115) (b := true) rfl rfl (evP ha 70 rfl (by simp [hpre]) (by simp) HD), (), rfl, jb⟩
         · intro _ L w' hL hpre hJ a ha
           have jb := hJ; simp [Region.binds] at hpre; exact .inr ⟨zap (g := 70) (t := 115) (b := true) rfl rfl (evP ha 70 rfl (by simp [hpre]) (by simp) HD), (), rfl, jb⟩
         · intro _ L w' hL hpre hJ a ha
           have jb := hJ; simp [Region.binds] at hpre; exact .inr ⟨zap (g := 70) (t := 115) (b := true) rfl rfl (evP ha 70 rfl (by simp [hpre]) (by simp) HD), (), rfl, jb⟩
         · intro _ L w' hL hpre hJ a ha
           have jb := hJ; simp [Region.binds] at hpre; exact .inr ⟨zap (g := 70) (t := 115) (b := true) rfl rfl (evP ha 70 rfl (by simp [hpre]) (by simp) HD), (), rfl, jb⟩
         · intro _ L w' hL hpre hJ a ha
           have jb := hJ; simp [Region.binds] at hpre; exact .inr ⟨zap (g := 70) (t := 115) (b := true) rfl rfl (evP ha 70 rfl (by simp [hpre]) (by simp) HD), (), rfl, jb⟩
         · intro _ L w' hL hpre hJ a ha
           have jb := hJ; simp [Region.binds] at hpre; exact .inr ⟨zap (g := 70) (t := 115) (b := true) rfl rfl (evP ha 70 rfl (by simp [hpre]) (by simp) HD), (), rfl, jb⟩
         · intro _ L w' hL hpre hJ a ha
           have jb := hJ; simp [Region.binds] at hpre; exact .inr ⟨zap (g := 70) (t := 115) (b := true) rfl rfl (evP ha 70 rfl (by simp [hpre]) (by simp) HD), (), rfl, jb⟩
         · intro _ L w' hL hpre hJ a ha
           have jb := hJ; simp [Region.binds] at hpre; exact .inr ⟨zap (g := 70) (t := 115) (b := true) rfl rfl (evP ha 70 rfl (by simp [hpre]) (by simp) HD), (), rfl, jb⟩
         · intro _ L w' hL hpre hJ a ha
           have jb := hJ; simp [Region.binds] at hpre; exact .inr ⟨zaq (g := 78) (t := 123) (b := false) rfl rfl (evP ha 78 rfl (by simp [hpre]) (by simp) HD), (), rfl, jb⟩
         · intro _ L w' hL hpre hJ a ha
           have jb := hJ; simp [Region.binds] at hpre; exact .inr ⟨zaq (g := 78) (t := 123) (b := false) rfl rfl (evP ha 78 rfl (by simp [hpre]) (by simp) HD), (), rfl, jb⟩
         · intro _ L w' hL hpre hJ a ha
           have jb := hJ; simp [Region.binds] at hpre; exact .inr ⟨zaq (g := 78) (t := 123) (b := false) rfl rfl (evP ha 78 rfl (by simp [hpre]) (by simp) HD), (), rfl, jb⟩
         · intro _ L w' hL hpre hJ a ha
           have jb := hJ; simp [Region.binds] at hpre; exact .inr ⟨zaq (g := 78) (t := 123) (b := false) rfl rfl (evP ha 78 rfl (by simp [hpre]) (by simp) HD), (), rfl, jb⟩
         · intro _ L w' hL hpre hJ a ha
           have jb := hJ; simp [Region.binds] at hpre; exact .inr ⟨zaq (g := 78) (t := 123) (b := false) rfl rfl (evP ha 78 rfl (by simp [hpre]) (by simp) HD), (), rfl, jb⟩
         · intro _ L w' hL hpre hJ a ha
           have jb := hJ; simp [Region.binds] at hpre; exact .inr ⟨zaq (g := 78) (t := 123) (b := false) rfl rfl (evP ha 78 rfl (by simp [hpre]) (by simp) HD), (), rfl, jb⟩
         · intro _ L w' hL hpre hJ a ha
           have jb := hJ; simp [Region.binds] at hpre; exact .inr ⟨zaq (g := 78) (t := 123) (b := false) rfl rfl (evP ha 78 rfl (by simp [hpre]) (by simp) HD), (), rfl, jb⟩
         · intro _ L w' hL hpre hJ a ha
           have jb := hJ; simp [Region.binds] at hpre; exact .inr ⟨zap (g := 70) (t := 115) (b := true) rfl rfl (evP ha 70 rfl (by simp [hpre]) (by simp) HD), (), rfl, jb⟩
         · intro _ L w' hL hpre hJ a ha
           have jb := hJ; simp [Region.binds] at hpre; refine .inl ⟨zae (g := 68) (t := 113) (b := false) rfl rfl (evP ha 68 rfl (by simp [hpre]) (by simp) HD), ?_⟩; have e115 : a.eval (.tmp 115) = .bool false := evP ha 70 rfl (by simp [hpre]) (by simp) HD; clear ha; have jb' := Lib.hid jb; clear jb; refine zab fun K HK => ?_; unfold Oper.wp; simp only [execOp, e115]; go_simp; exact HK.out _ _ ⟨(), _, rfl, rfl, jb'.out⟩
         · intro _ L w' hL hpre hJ a ha
           have jb := hJ; simp [Region.binds] at hpre; refine .inl ⟨zaa rfl, ?_⟩; have e113 : a.eval (.tmp 113) = .bool false := evP ha 68 rfl (by simp [hpre]) (by simp) HD; have e132 : a.eval (.tmp 132) = .bool false := evP ha 87 rfl (by simp [hpre]) (by simp) HD; clear ha; have jb' := Lib.hid jb; clear jb; refine zab fun K HK => ?_; unfold Oper.wp; simp only [execOp, e113, e132]; go_simp; exact HK.out _ _ ⟨(), _, rfl, rfl, jb'.out⟩
       · intro _ L w' hL hJ
         have jb := hJ; simp only [List.foldl_cons, List.foldl_nil]; have HBX := Lib.hid jb; clear jb hL; go_simp; go_wp2_with fail
         go_roundw
         case rel => exact ⟨b + 1, by omega, by omega, rfl, HBX.out⟩
         case measure => simp [intOf]; omega
  · obtain ⟨wt, rfl⟩ : ∃ wo : World, wo = wr := ⟨_, rfl⟩
    have hd64 := HTA.out.ok.dead; obtain ⟨dd, hdd⟩ : ∃ dd, dd = Y.dead := ⟨_, rfl⟩; rw [← hdd] at hd64 HCB; have HDD := Lib.hid hdd; clear hdd; go_wp2_with fail
    go_loopw [12, 13] (fun va vd wr => ∃ k : Nat, k ≤ D ∧ vd = .int .i64 k ∧ va = .int .i64 ((andN (2 ^ k - 1) dd : Nat) : Int) ∧ Below wq.heap.size wq wr) (fun _ vd _ => D - (intOf vd).toNat)
    case atStart => exact ⟨0, by omega, rfl, by rw [al_zero]; rfl, HBJ.out⟩
    case round =>
     obtain ⟨k, hk, rfl, rfl, hbk⟩ := hrel; have HBK := Lib.hid hbk; obtain ⟨cD, cB, cX⟩ := HCB.out wr hbk; clear hbk; by_cases hkD : k < D
     · have hsp := tls.spot_bit dd hd64 k (by omega)
       have HSp := Lib.hid (refspot_any (dd : Int) (k : Int) wr); have hsu := al_succ dd hd64 k (by omega); have hal := al_lt dd hd64 k (by omega); have hor := or_bits2 _ hal k (by omega); generalize spotI (dd : Int) (k : Int) = q1 at *; generalize andN (2 ^ k - 1) dd = al at *; cases hb1 : dd.testBit k with
       | true =>
        rw [hb1] at hsp hsu; have hsp' : ¬ q1 < 0 := by simpa using hsp
        have HSU := Lib.hid (show andN (2 ^ (k + 1) - 1) dd = al from hsu); clear hsp hsu hor; go_wp2_with fail
        refine HSp.out.mono ?_; rintro e w5 ⟨rfl, hb5⟩; have HB5 := Lib.hid (HBK.out.trans (hb5.mono HBK.out.size)); clear hb5; go_wp2_with fail
        go_roundw
        case rel => exact ⟨k + 1, by omega, by go_num, by rw [HSU.out], HB5.out⟩
        case measure => simp [intOf]; omega
       | false =>
        rw [hb1] at hsp hsu; have hsp' : q1 < 0 := by simpa using hsp
        have HSU := Lib.hid (show andN (2 ^ (k + 1) - 1) dd = al ||| 2 ^ k from hsu); have HOR := Lib.hid hor; have HK6 := Lib.hid (show k = 0 ∨ k = 1 ∨ k = 2 ∨ k = 3 ∨ k = 4 ∨ k = 5 by omega); clear hsp hsu hor; go_wp2_with fail
        refine HSp.out.mono ?_; rintro e w5 ⟨rfl, hb5⟩; have HB5 := Lib.hid (HBK.out.trans (hb5.mono HBK.out.size)); clear hb5 HSp cD cB cX; go_upto_region 16 with fail
        rcases HK6.out with rfl | rfl | rfl | rfl | rfl | rfl
        · clear HK6 hal
          go_wp2_with fail
          go_roundw
          case rel => exact ⟨0 + 1, by omega, by go_num, by rw [HSU.out]; exact congrArg (Value.int .i64) HOR.out, HB5.out⟩
          case measure => simp [intOf]; omega
        · clear HK6 hal
          go_wp2_with fail
          go_roundw
          case rel => exact ⟨1 + 1, by omega, by go_num, by rw [HSU.out]; exact congrArg (Value.int .i64) HOR.out, HB5.out⟩
          case measure => simp [intOf]; omega
        · clear HK6 hal
          go_wp2_with fail
          go_roundw
          case rel => exact ⟨2 + 1, by omega, by go_num, by rw [HSU.out]; exact congrArg (Value.int .i64) HOR.out, HB5.out⟩
          case measure => simp [intOf]; omega
        · clear HK6 hal
          go_wp2_with fail
          go_roundw
          case rel => exact ⟨3 + 1, by omega, by go_num, by rw [HSU.out]; exact congrArg (Value.int .i64) HOR.out, HB5.out⟩
          case measure => simp [intOf]; omega
        · clear HK6 hal
          go_wp2_with fail
          go_roundw
          case rel => exact ⟨4 + 1, by omega, by go_num, by rw [HSU.out]; exact congrArg (Value.int .i64) HOR.out, HB5.out⟩
          case measure => simp [intOf]; omega
        · clear HK6 hal
          go_wp2_with fail
          go_roundw
          case rel => exact ⟨5 + 1, by omega, by go_num, by rw [HSU.out]; exact congrArg (Value.int .i64) HOR.out, HB5.out⟩
          case measure => simp [intOf]; omega
     · obtain rfl : k = D := by omega
       have HAl := Lib.hid (show ∀ wz, Below wq.heap.size wq wz → Calls Tryz.prog 33 #[.pointer (some ⟨gt, 0, none⟩)] wz fun e w' => e = .returned (.int .i64 ((andN (2 ^ k - 1) dd : Nat) : Int)) ∧ Below wz.heap.size wz w' from fun wz h => by
        have := toB_drew (tal.alive_any (HTA.out.below h)); unfold Ty.alive at this; rw [HDM.out.1, ← HDD.out] at this; exact this)
       have HGo := Lib.hid (show ∀ wz, Below wq.heap.size wq wz → Calls Tryz.prog 38 #[.pointer (some ⟨gt, 0, none⟩)] wz fun e w' => e = .returned (.agg (tal.geoV k B P).toArray) ∧ Below wz.heap.size wz w' from fun wz h => by
        have := tal.geo_any (HTA.out.below h); rw [HDM.out.1, HDM.out.2.1, HDM.out.2.2] at this; exact this)
       have HGR := Lib.hid (show ∀ wz, Below wq.heap.size wq wz → wz.rangeAt WB 0 (tal.geoV k B P) from fun wz h => by
        have h' := zad HWB.out h; have h2 := zbo (cs := refV Y) h' [] (tls.G3 Y) _ rfl 0 rfl; obtain ⟨d1, d2, d3⟩ := HDM.out; unfold tls.G3 at h2; rw [d1, d2, d3] at h2; exact h2)
       have HGE := Lib.hid (show ∀ w, (binOp .eql 39 (.agg (tal.geoV k B P).toArray) (.agg (tal.geoV k B P).toArray)).run Tryz.prog w = .ok (.bool true) w from fun w => eq_geo k B P (by omega) (by omega) (by have h1 := HTA.out.ok.geo.2.2.2.2.2; have h2 := HDM.out.2.2; omega) w); obtain ⟨al, hal⟩ : ∃ al, al = andN (2 ^ k - 1) dd := ⟨_, rfl⟩; rw [← hal] at HAl ⊢; have HAE := Lib.hid (show ((al : Int) == (al : Int)) = true by simp); obtain ⟨HBJ, -⟩ : ∃ _ : Hid (Below wq.heap.size wq wr), True := ⟨HBK, trivial⟩; obtain ⟨D, rfl⟩ : ∃ D, D = k := ⟨_, rfl⟩; clear hal; go_upto_region 17 with fail
       clear cD cB cX
       refine zan (by kernel_rfl) (by kernel_rfl) (X := Unit) (fun _ => [(some 155, .pointer (some ⟨gt, 0, none⟩)), (some 156, .int .i64 (al : Int)), (some 157, .int .i64 (al : Int)), (some 158, .bool true), (some 159, .bool true), (some 160, .pointer (some ⟨gt, 0, none⟩)), (some 161, .agg (tal.geoV D B P).toArray), (some 162, .pointer (some ⟨WB, 0, none⟩)), (some 163, .pointer (some ⟨WB, 0, none⟩)), (some 164, .pointer (some ⟨WB, 0, none⟩)), (some 165, .agg (tal.geoV D B P).toArray), (some 166, .bool true), (some 167, .bool true), (some 4, .bool true)])
        (fun _ L w' => Below wq.heap.size wq w') (fun _ => rfl) (by kernel_rfl) ⟨(), fun L hL => HBJ.out.drew⟩ ?_ ?_
       · refine ⟨?_, ?_, ?_, ?_, ?_, ?_, ?_, ?_, ?_, ?_, ?_, ?_, ?_, ?_, trivial⟩
         · intro _ L w' hL hpre hJ a ha
           have jb := hJ; simp [Region.binds] at hpre; refine .inl ⟨zaa rfl, ?_⟩; exact zah (.tmp 6) (.inl rfl) (.pointer (some ⟨gt, 0, none⟩)) (by rw [ha, zac rfl]; rfl) ⟨(), _, rfl, rfl, jb⟩
         · intro _ L w' hL hpre hJ a ha
           have jb := hJ; simp [Region.binds] at hpre; refine .inl ⟨zaa rfl, ?_⟩; have e155 : a.eval (.tmp 155) = .pointer (some ⟨gt, 0, none⟩) := evP ha 0 rfl (by simp [hpre]) (by simp) rfl; clear ha; have jb' := Lib.hid jb; clear jb; refine zab fun K HK => ?_; unfold Oper.wp; simp only [execOp, resolve, List.map_toArray, List.map_cons, List.map_nil, e155]; go_simp; refine ((HAl.out w' jb'.out)).mono ?_; rintro e w'' ⟨rfl, hb⟩; exact HK.out _ _ ⟨(), _, rfl, rfl, jb'.out.trans (hb.mono jb'.out.size)⟩
         · intro _ L w' hL hpre hJ a ha
           have jb := hJ; simp [Region.binds] at hpre; refine .inl ⟨zaa rfl, ?_⟩; exact zah (.tmp 12) (.inl rfl) (.int .i64 (al : Int)) (by rw [ha, zac rfl]; rfl) ⟨(), _, rfl, rfl, jb⟩
         · intro _ L w' hL hpre hJ a ha
           have jb := hJ; simp [Region.binds] at hpre; refine .inl ⟨zaa rfl, ?_⟩; have e156 : a.eval (.tmp 156) = .int .i64 (al : Int) := evP ha 1 rfl (by simp [hpre]) (by simp) rfl; have e157 : a.eval (.tmp 157) = .int .i64 (al : Int) := evP ha 2 rfl (by simp [hpre]) (by simp) rfl; clear ha; have hz := HAE.out; have jb' := Lib.hid jb; clear jb; refine zab fun K HK => ?_; unfold Oper.wp; simp only [execOp, e156, e157]; go_simp; exact HK.out _ _ ⟨(), _, rfl, rfl, jb'.out⟩
         · intro _ L w' hL hpre hJ a ha
           have jb := hJ; simp [Region.binds] at hpre; refine .inl ⟨zaa rfl, ?_⟩; exact zah (.tmp 158) (.inl rfl) (.bool true) (evP ha 3 rfl (by simp [hpre]) (by simp) rfl) ⟨(), _, rfl, rfl, jb⟩
         · intro _ L w' hL hpre hJ a ha
           have jb := hJ; simp [Region.binds] at hpre; refine .inl ⟨zae (g := 4) (t := 159) (b := true) rfl rfl (evP ha 4 rfl (by simp [hpre]) (by simp) rfl), ?_⟩; exact zah (.tmp 6) (.inl rfl) (.pointer (some ⟨gt, 0, none⟩)) (by rw [ha, zac rfl]; rfl) ⟨(), _, rfl, rfl, jb⟩
         · intro _ L w' hL hpre hJ a ha
           have jb := hJ; simp [Region.binds] at hpre; refine .inl ⟨zae (g := 4) (t := 159) (b := true) rfl rfl (evP ha 4 rfl (by simp [hpre]) (by simp) rfl), ?_⟩; have e160 : a.eval (.tmp 160) = .pointer (some ⟨gt, 0, none⟩) := evP ha 5 rfl (by simp [hpre]) (by simp) rfl; clear ha; have jb' := Lib.hid jb; clear jb; refine zab fun K HK => ?_; unfold Oper.wp; simp only [execOp, resolve, List.map_toArray, List.map_cons, List.map_nil, e160]; go_simp; refine ((HGo.out w' jb'.out)).mono ?_; rintro e w'' ⟨rfl, hb⟩; exact HK.out _ _ ⟨(), _, rfl, rfl, jb'.out.trans (hb.mono jb'.out.size)⟩
         · intro _ L w' hL hpre hJ a ha
           have jb := hJ; simp [Region.binds] at hpre; refine .inl ⟨zae (g := 4) (t := 159) (b := true) rfl rfl (evP ha 4 rfl (by simp [hpre]) (by simp) rfl), ?_⟩; exact zah (.tmp 7) (.inl rfl) (.pointer (some ⟨WB, 0, none⟩)) (by rw [ha, zac rfl]; rfl) ⟨(), _, rfl, rfl, jb⟩
         · intro _ L w' hL hpre hJ a ha
           have jb := hJ; simp [Region.binds] at hpre; refine .inl ⟨zae (g := 4) (t := 159) (b := true) rfl rfl (evP ha 4 rfl (by simp [hpre]) (by simp) rfl), ?_⟩; have e162 : a.eval (.tmp 162) = .pointer (some ⟨WB, 0, none⟩) := evP ha 7 rfl (by simp [hpre]) (by simp) rfl; clear ha; have jb' := Lib.hid jb; clear jb; refine zab fun K HK => ?_; unfold Oper.wp; simp only [execOp, e162]; go_simp; exact HK.out _ _ ⟨(), _, rfl, rfl, jb'.out⟩
         · intro _ L w' hL hpre hJ a ha
           have jb := hJ; simp [Region.binds] at hpre; refine .inl ⟨zae (g := 4) (t := 159) (b := true) rfl rfl (evP ha 4 rfl (by simp [hpre]) (by simp) rfl), ?_⟩; have e163 : a.eval (.tmp 163) = .pointer (some ⟨WB, 0, none⟩) := evP ha 8 rfl (by simp [hpre]) (by simp) rfl; clear ha; have jb' := Lib.hid jb; clear jb; refine zab fun K HK => ?_; unfold Oper.wp; simp only [execOp, e163]; go_simp; exact HK.out _ _ ⟨(), _, rfl, rfl, jb'.out⟩
         · intro _ L w' hL hpre hJ a ha
           have jb := hJ; simp [Region.binds] at hpre; refine .inl ⟨zae (g := 4) (t := 159) (b := true) rfl rfl (evP ha 4 rfl (by simp [hpre]) (by simp) rfl), ?_⟩; have e164 : a.eval (.tmp 164) = .pointer (some ⟨WB, 0, none⟩) := evP ha 9 rfl (by simp [hpre]) (by simp) rfl; exact wp_load_mid 39 (.tmp 164) rfl WB 0 e164 (tal.geoV D B P) _ (HGR.out w' jb) Tryz.underlying39 rfl nand.geoInfo ⟨(), _, rfl, rfl, jb⟩
         · intro _ L w' hL hpre hJ a ha
           have jb := hJ; simp [Region.binds] at hpre; refine .inl ⟨zae (g := 4) (t := 159) (b := true) rfl rfl (evP ha 4 rfl (by simp [hpre]) (by simp) rfl), ?_⟩; have e161 : a.eval (.tmp 161) = .agg (tal.geoV D B P).toArray := evP ha 6 rfl (by simp [hpre]) (by simp) rfl; have e165 : a.eval (.tmp 165) = .agg (tal.geoV D B P).toArray := evP ha 10 rfl (by simp [hpre]) (by simp) rfl; clear ha; have hz := HGE.out; have jb' := Lib.hid jb; clear jb; refine zab fun K HK => ?_; unfold Oper.wp; simp only [execOp, e161, e165]; go_simp; exact HK.out _ _ ⟨(), _, rfl, rfl, jb'.out⟩
         · intro _ L w' hL hpre hJ a ha
           have jb := hJ; simp [Region.binds] at hpre; refine .inl ⟨zaa rfl, ?_⟩; have e159 : a.eval (.tmp 159) = .bool true := evP ha 4 rfl (by simp [hpre]) (by simp) rfl; have e166 : a.eval (.tmp 166) = .bool true := evP ha 11 rfl (by simp [hpre]) (by simp) rfl; clear ha; have jb' := Lib.hid jb; clear jb; refine zab fun K HK => ?_; unfold Oper.wp; simp only [execOp, e159, e166]; go_simp; exact HK.out _ _ ⟨(), _, rfl, rfl, jb'.out⟩
         · intro _ L w' hL hpre hJ a ha
           have jb := hJ; simp [Region.binds] at hpre; refine .inl ⟨zaa rfl, ?_⟩; exact zah (.tmp 167) (.inr rfl) (.bool true) (evP ha 12 rfl (by simp [hpre]) (by simp) rfl) ⟨(), _, rfl, rfl, jb⟩
       · intro _ L w' hL hJ
         have jb := hJ; simp only [List.foldl_cons, List.foldl_nil]; have HBX := Lib.hid jb; clear jb hL; go_simp; go_wp2_with fail
         go_ret
         exact ⟨rfl, HWQ.out _ HBX.out⟩
theorem walk (a0 : List Value) (A : Option Addr) (n c : Nat) (w : World) (w0 : okAll (List.replicate 3 (Kd.int .i64)) a0 = true) (w1 : IsRows (List.replicate 4 (Kd.int .i64) ++ List.replicate 16 (Kd.int .u8) ++ List.replicate 7 (Kd.int .i64)) w A n c) : Calls Tryz.prog 10 #[.agg a0.toArray, .slice A n c] w fun e w' => e = .returned (.bool true) ∧ Below w.heap.size w w' := by
 obtain ⟨x, y, v, rfl⟩ := pickHeld.open_geo3 w0
 exact walk0 x y v A n c w w1
end Go.Proofs.YtpbigfopmompfaaGreat.tallyAll
