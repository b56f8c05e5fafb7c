import Derived.Test.YtpbigfopmompfaaGreatSherdMay
import Derived.Deep.DeepCutAuto
/- What a claim's proof leans on: SherdMay2, RefMay, RefMay2. -/
namespace Go.Proofs.YtpbigfopmompfaaGreat
open Go.RowKit
def placeB (b o m : Int) : Bool := inB b 15 && (inB o 7 && decide (2 ≤ countI m))
def numbersB (r l s : Int) : Bool := inB s 1099511627775 && (inB l 65535 && inB r 255)
def maySh (d : List Nat) (r l s k b o m : Int) : Bool := (placeB b o m && numbersB r l s) && (k == 2 || (k == 1 && entryB d r l s))
theorem wpList_want_mid {ops : Array Oper} {rest : List Oper} {op : Oper} {a : Act} {w : World} {Q : Exit → Act → World → Prop} (x : Operand) (ho : op.op = .load 153 x) (b : Nat) (hx : a.eval x = .pointer (some ⟨b, 0, none⟩))
 (hw : Region.wanted op (yielded ops a.tmps) = true) {cs : List Value} (hc : w.rangeAt b 0 cs) (hi : (Tryz.prog.info? 153).map (·.size) = some cs.length)
 (h : wpList Tryz.prog ops Q rest (a.put op.dst (.agg cs.toArray)) w) : wpList Tryz.prog ops Q (op :: rest) a w := by
 unfold wpList
 rw [if_pos hw]
 exact .inl (wp_load_mid 153 x ho b 0 hx cs _ hc Tryz.underlying153 rfl hi h)
set_option maxRecDepth 100000 in
set_option maxHeartbeats 2000000 in
theorem zbj (d : List Nat) (r l s k b o m : Int) (w : World) (hd : d.length = 16) (hb : ∀ x ∈ d, x < 256) :
 Calls Tryz.prog 120 #[.agg (shV d r l s k b o m).toArray] w fun e w' => e = .returned (.bool (maySh d r l s k b o m)) ∧ Below w.heap.size w w' := by
 have hB := heap_alloc_new w (.cells (shV d r l s k b o m).toArray 153)
 obtain ⟨c16, c17, c18, c19, c20, c21, c22⟩ := za6 hd hB
 have hbel := (Below.refl _ w).alloc (Nat.le_refl _) (.cells (shV d r l s k b o m).toArray 153)
 have hR : (w.alloc (.cells (shV d r l s k b o m).toArray 153)).rangeAt w.heap.size 0 (shV d r l s k b o m) := by
  intro j v hv; rw [Nat.zero_add, zaf hB, List.getElem?_toArray]; exact hv
 have HD := Lib.hid hd
 have HBy := Lib.hid hb
 clear hB hd hb
 unfold maySh
 generalize hPB : placeB b o m = PB
 generalize hNB : numbersB r l s = NB
 generalize hEB : entryB d r l s = EB
 have HPB := Lib.hid hPB
 have HNB := Lib.hid hNB
 have HEB := Lib.hid hEB
 clear hPB hNB hEB
 generalize hw1 : w.alloc (.cells (shV d r l s k b o m).toArray 153) = w1 at *
 have HW := Lib.hid hw1
 go_enter Tryz.func120, Tryz.ntmps120
 go_upto_region 1 with fail
 clear hw1
 go_cut [3] (fun v wx => v = .bool PB ∧ wx = w1)
 case first =>
  cases h1 : inB b 15
  · have H1 := Lib.hid h1
    clear h1; go_wp2_with fail
    refine (in_any _ _ _).mono ?_; rw [H1.out]; rintro e w' ⟨rfl, rfl⟩; go_wp2_with fail
    go_meet
    exact ⟨by rw [← HPB.out, placeB, H1.out]; rfl, rfl⟩
  · have H1 := Lib.hid h1
    clear h1; cases h2 : inB o 7
    · have H2 := Lib.hid h2
      clear h2; go_wp2_with fail
      refine (in_any _ _ _).mono ?_; rw [H1.out]; rintro e w' ⟨rfl, rfl⟩; go_wp2_with fail
      refine (in_any _ _ _).mono ?_; rw [H2.out]; rintro e w' ⟨rfl, rfl⟩; go_wp2_with fail
      go_meet
      exact ⟨by rw [← HPB.out, placeB, H1.out, H2.out]; rfl, rfl⟩
    · have H2 := Lib.hid h2
      clear h2; go_wp2_with fail
      refine (in_any _ _ _).mono ?_; rw [H1.out]; rintro e w' ⟨rfl, rfl⟩; go_wp2_with fail
      refine (in_any _ _ _).mono ?_; rw [H2.out]; rintro e w' ⟨rfl, rfl⟩; go_wp2_with fail
      refine (zb8 _ _).mono ?_; rintro e w' ⟨rfl, rfl⟩; go_wp2_with fail
      go_meet
      exact ⟨by rw [← HPB.out, placeB, H1.out, H2.out]; simp, rfl⟩
 case rest =>
  obtain ⟨rfl, rfl⟩ := hcut; obtain ⟨w1, rfl⟩ : ∃ x : World, x = wc := ⟨_, rfl⟩; go_upto_region 2 with fail
  go_cut [4] (fun v wx => v = .bool NB ∧ wx = w1)
  case first =>
   cases h1 : inB s 1099511627775
   · have H1 := Lib.hid h1
     clear h1; go_wp2_with fail
     refine (in_any _ _ _).mono ?_; rw [H1.out]; rintro e w' ⟨rfl, rfl⟩; go_wp2_with fail
     go_meet
     exact ⟨by rw [← HNB.out, numbersB, H1.out]; rfl, rfl⟩
   · have H1 := Lib.hid h1
     clear h1; cases h2 : inB l 65535
     · have H2 := Lib.hid h2
       clear h2; go_wp2_with fail
       refine (in_any _ _ _).mono ?_; rw [H1.out]; rintro e w' ⟨rfl, rfl⟩; go_wp2_with fail
       refine (in_any _ _ _).mono ?_; rw [H2.out]; rintro e w' ⟨rfl, rfl⟩; go_wp2_with fail
       go_meet
       exact ⟨by rw [← HNB.out, numbersB, H1.out, H2.out]; rfl, rfl⟩
     · have H2 := Lib.hid h2
       clear h2; go_wp2_with fail
       refine (in_any _ _ _).mono ?_; rw [H1.out]; rintro e w' ⟨rfl, rfl⟩; go_wp2_with fail
       refine (in_any _ _ _).mono ?_; rw [H2.out]; rintro e w' ⟨rfl, rfl⟩; go_wp2_with fail
       refine (in_any _ _ _).mono ?_; rintro e w' ⟨rfl, rfl⟩; go_wp2_with fail
       go_meet
       exact ⟨by rw [← HNB.out, numbersB, H1.out, H2.out]; simp, rfl⟩
  case rest =>
   obtain ⟨rfl, rfl⟩ := hcut; obtain ⟨w1, rfl⟩ : ∃ x : World, x = wc := ⟨_, rfl⟩; cases PB
   · go_wp2_with fail
     go_ret
     exact ⟨by simp, hbel⟩
   · cases NB
     · go_wp2_with fail
       go_ret
       exact ⟨by simp, hbel⟩
     · by_cases hk2 : k = 2
       · subst hk2
         go_wp2_with fail
         go_ret
         exact ⟨by simp, hbel⟩
       · have t2 : (k == 2) = false := by simpa using hk2
         by_cases hk1 : k = 1
         · subst hk1
           clear hk2 t2; have tok : True := trivial; go_wp2_with (first | (rw [if_pos (by rfl)]; refine wp_load_mid 153 (.tmp 1) rfl w.heap.size 0 rfl _ _ hR Tryz.underlying153 rfl (by rw [zba HD.out]; kernel_rfl) ?_) | (refine wpList_want_mid (.tmp 1) rfl w.heap.size rfl rfl hR (by rw [zba HD.out]; kernel_rfl) ?_))
           refine (entry_any d r l s 1 b o m _ HD.out HBy.out).mono ?_; rw [HEB.out]; rintro e w2 ⟨rfl, hb2⟩; have hb3 := hbel.trans (hb2.mono hbel.size); go_wp2_with fail
           go_ret
           exact ⟨by simp, hb3⟩
         · have t1 : (k == 1) = false := by simpa using hk1
           clear hk1 hk2; go_wp2_with fail
           go_ret
           exact ⟨by simp [t1, t2], hbel⟩
end Go.Proofs.YtpbigfopmompfaaGreat
namespace Go.Proofs.YtpbigfopmompfaaGreat
open Go.RowKit
theorem inB_iff {n t : Int} : inB n t = true ↔ 0 ≤ n ∧ n ≤ t := by simp [inB]
end Go.Proofs.YtpbigfopmompfaaGreat
namespace Go.Proofs.YtpbigfopmompfaaGreat
open Go.RowKit
end Go.Proofs.YtpbigfopmompfaaGreat
