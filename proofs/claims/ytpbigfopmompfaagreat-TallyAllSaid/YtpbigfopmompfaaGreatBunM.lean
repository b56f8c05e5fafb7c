import Derived.Test.YtpbigfopmompfaaGreatNandNew
import Derived.Test.YtpbigfopmompfaaGreatDies
import Derived.Lib.SliceRun
import Derived.Lib.LazyBuf
/- What a claim's proof leans on: Flt, FltPlan, FltRun. -/
namespace Go.Proofs.YtpbigfopmompfaaGreat.nand
open Go.RowKit
set_option linter.unusedVariables false
def flts (l : List Flt) : List (List Value) := l.map Flt.v
theorem fltInfo : (Tryz.prog.info? 87).map (·.size) = some 7 := by kernel_rfl
theorem fltInfo3 : (Tryz.prog.info? 87).map (fun i => (i.zero, i.size, i.bytes)) = some (some (.agg #[.int .i64 0, .int .i64 0, .int .i64 0, .int .i64 0, .int .i64 0, .int .i64 0, .int .i64 0]), 7, 56) := by kernel_rfl
theorem one_flt (f : Flt) : ∀ u ∈ f.v, u.oneCell' = true := by
 intro u hu
 simp [Flt.v] at hu
 rcases hu with rfl | rfl | rfl | rfl | rfl | rfl | rfl <;> rfl
theorem one_flts (l : List Flt) : ∀ r ∈ flts l, ∀ u ∈ r, u.oneCell' = true := by
 intro r hr
 obtain ⟨x, _, rfl⟩ := List.mem_map.1 hr
 exact one_flt x
theorem flts_at {l : List Flt} {k : Nat} {f : Flt} (h : l[k]? = some f) : (flts l)[k]? = some f.v := by rw [flts, List.getElem?_map, h]; rfl
theorem flt_c0 {w : World} {k : Nat} {f : Flt} {t : TypeId} {fr : Nat × Nat} (h : w.heap[k]? = some (.cells f.v.toArray t fr)) : w.cell? ⟨k, 0, none⟩ = some (.int .i64 f.at_) := by rw [zaf h]; rfl
theorem want_geo {ops : Array Oper} {rest : List Oper} {op : Oper} {a : Act} {w : World} {Q : Exit → Act → World → Prop} (x : Operand) (ho : op.op = .load 39 x) (b i : Nat) (hx : a.eval x = .pointer (some ⟨b, i, none⟩))
 (hw : Region.wanted op (yielded ops a.tmps) = true) {cs : List Value} (hc : w.rangeAt b i cs) (hi : (Tryz.prog.info? 39).map (·.size) = some cs.length)
 (h : wpList Tryz.prog ops Q rest (a.put op.dst (.agg cs.toArray)) w) : wpList Tryz.prog ops Q (op :: rest) a w := by
 unfold wpList
 rw [if_pos hw]
 exact .inl (wp_load_mid 39 x ho b i hx cs _ hc Tryz.underlying39 rfl hi h)
theorem want_addr {ops : Array Oper} {rest : List Oper} {op : Oper} {a : Act} {w : World} {Q : Exit → Act → World → Prop} (x : Operand) (ho : op.op = .load 85 x) (b i : Nat) (hx : a.eval x = .pointer (some ⟨b, i, none⟩))
 (hw : Region.wanted op (yielded ops a.tmps) = true) {cs : List Value} (hc : w.rangeAt b i cs) (hi : (Tryz.prog.info? 85).map (·.size) = some cs.length)
 (h : wpList Tryz.prog ops Q rest (a.put op.dst (.agg cs.toArray)) w) : wpList Tryz.prog ops Q (op :: rest) a w := by
 unfold wpList
 rw [if_pos hw]
 exact .inl (wp_load_mid 85 x ho b i hx cs _ hc Tryz.underlying85 rfl hi h)
def turnF (f : Flt) : Bool := if f.k = 5 then decide (0 ≤ f.n) && (decide (f.n < 32) && (decide (1 ≤ f.x) && decide (f.x ≤ 255))) else decide (f.n = 0) && decide (f.x = 0)
def mayF (D B P : Nat) (f : Flt) : Bool := decide (0 ≤ f.at_) && (decide (1 ≤ f.k) && (decide (f.k ≤ 5) && (inG (D : Int) B P f.d f.b f.p && turnF f)))
set_option maxRecDepth 100000 in
set_option maxHeartbeats 4000000 in
theorem may_any (D B P : Nat) (f : Flt) (w : World) (ok : D ≤ 6 ∧ B ≤ 16 ∧ P ≤ 8) :
 Calls Tryz.prog 126 #[.agg #[.int .i64 (D : Int), .int .i64 (B : Int), .int .i64 (P : Int)], .agg f.v.toArray] w fun e w' => e = .returned (.bool (mayF D B P f)) ∧ Below w.heap.size w w' := by
 have hbel := below2 w (.cells #[.int .i64 (D : Int), .int .i64 (B : Int), .int .i64 (P : Int)] 39) (.cells f.v.toArray 87)
 have hg := zbi w (.cells #[.int .i64 (D : Int), .int .i64 (B : Int), .int .i64 (P : Int)] 39) (.cells f.v.toArray 87)
 have hf := zak (w.alloc (.cells #[.int .i64 (D : Int), .int .i64 (B : Int), .int .i64 (P : Int)] 39)) (.cells f.v.toArray 87) (w.heap.size + 1) (by simp)
 have hIn := fun w : World => in_geo (D : Int) (B : Int) (P : Int) f.d f.b f.p w (by omega) (by omega) (by omega)
 have HIN := Lib.hid hIn
 have HBL := Lib.hid hbel
 clear hIn hbel
 go_enter Tryz.func126, Tryz.ntmps126
 go_upto_region 1 with fail
 change Code.wp _ _ _ _ ((w.alloc (.cells #[.int .i64 (D : Int), .int .i64 (B : Int), .int .i64 (P : Int)] 39)).alloc (.cells f.v.toArray 87))
 generalize (w.alloc (.cells #[.int .i64 (D : Int), .int .i64 (B : Int), .int .i64 (P : Int)] 39)).alloc (.cells f.v.toArray 87) = w2 at *
 have c0 := flt_c0 hf
 have c1 := flt_c1 hf
 have c5 := flt_c5 hf
 have c6 := flt_c6 hf
 have hrg := zal (cs := [.int .i64 (D : Int), .int .i64 (B : Int), .int .i64 (P : Int)]) hg
 have hra := flt_addr hf
 clear hf hg
 obtain ⟨T1, hT1⟩ : ∃ T1, T1 = (decide (0 ≤ f.n) && (decide (f.n < 32) && (decide (1 ≤ f.x) && decide (f.x ≤ 255)))) := ⟨_, rfl⟩
 have HT1 := Lib.hid hT1
 clear hT1
 go_cut [5] (fun v wx => v = .bool T1 ∧ wx = w2)
 case first =>
  clear c0 c1 hrg hra; by_cases a1 : 0 ≤ f.n
  · by_cases a2 : f.n < 32
    · by_cases a3 : 1 ≤ f.x
      · by_cases a4 : f.x ≤ 255
        · go_wp2_with fail
          go_meet
          exact ⟨by rw [HT1.out, decide_eq_true a1, decide_eq_true a2, decide_eq_true a3, decide_eq_true a4]; rfl, rfl⟩
        · go_wp2_with fail
          go_meet
          exact ⟨by rw [HT1.out, decide_eq_true a1, decide_eq_true a2, decide_eq_true a3, decide_eq_false (by omega)]; rfl, rfl⟩
      · go_wp2_with fail
        go_meet
        exact ⟨by rw [HT1.out, decide_eq_true a1, decide_eq_true a2, decide_eq_false (by omega)]; rfl, rfl⟩
    · go_wp2_with fail
      go_meet
      exact ⟨by rw [HT1.out, decide_eq_true a1, decide_eq_false (by omega)]; rfl, rfl⟩
  · go_wp2_with fail
    go_meet
    exact ⟨by rw [HT1.out, decide_eq_false (by omega)]; rfl, rfl⟩
 case rest =>
  obtain ⟨rfl, rfl⟩ := hcut; obtain ⟨w2, rfl⟩ : ∃ x : World, x = wc := ⟨_, rfl⟩; obtain ⟨T2, hT2⟩ : ∃ T2, T2 = turnF f := ⟨_, rfl⟩; have HT2 := Lib.hid hT2; clear hT2; go_upto_if 26 with fail
  go_cut [5] (fun v wx => v = .bool T2 ∧ wx = w2)
  case first =>
   clear c0 hrg hra; by_cases hk : f.k = 5
   · have HK := Lib.hid hk
     have hkc : (f.k != (5 : Int)) = false := by rw [hk]; rfl
     clear hk; go_wp2_with fail
     go_meet
     exact ⟨by rw [HT2.out, turnF, if_pos HK.out, HT1.out], rfl⟩
   · have HK := Lib.hid hk
     have hkb : (f.k == (5 : Int)) = false := by simpa using hk
     have hkc : (f.k != (5 : Int)) = true := by simpa using hk
     clear hk; by_cases a1 : f.n = 0
     · have b1 : (f.n == (0 : Int)) = true := by simpa using a1
       by_cases a2 : f.x = 0
       · have HA := Lib.hid (And.intro a1 a2)
         have b2 : (f.x == (0 : Int)) = true := by simpa using a2
         clear a1 a2; go_wp2_with fail
         go_meet
         exact ⟨by rw [HT2.out, turnF, if_neg HK.out, decide_eq_true HA.out.1, decide_eq_true HA.out.2]; rfl, rfl⟩
       · have HA := Lib.hid (And.intro a1 a2)
         have b2 : (f.x == (0 : Int)) = false := by simpa using a2
         clear a1 a2; go_wp2_with fail
         go_meet
         exact ⟨by rw [HT2.out, turnF, if_neg HK.out, decide_eq_true HA.out.1, decide_eq_false HA.out.2]; rfl, rfl⟩
     · have HA := Lib.hid a1
       have b1 : (f.n == (0 : Int)) = false := by simpa using a1
       clear a1; go_wp2_with fail
       go_meet
       exact ⟨by rw [HT2.out, turnF, if_neg HK.out, decide_eq_false HA.out]; rfl, rfl⟩
  case rest =>
   obtain ⟨rfl, rfl⟩ := hcut; have HRES := Lib.hid (show mayF D B P f = (decide (0 ≤ f.at_) && (decide (1 ≤ f.k) && (decide (f.k ≤ 5) && (inG (D : Int) B P f.d f.b f.p && T2)))) by rw [HT2.out]; rfl); clear c5 c6; by_cases a1 : 0 ≤ f.at_
   · by_cases a2 : 1 ≤ f.k
     · by_cases a3 : f.k ≤ 5
       · have HR2 := Lib.hid (show mayF D B P f = (inG (D : Int) B P f.d f.b f.p && T2) by rw [HRES.out, decide_eq_true a1, decide_eq_true a2, decide_eq_true a3]; rfl)
         go_wp2_with (first | (refine want_geo (.tmp 2) rfl w.heap.size 0 rfl (by rfl) hrg geoInfo ?_) | (refine want_addr (.tmp 50) rfl (w.heap.size + 1) 2 rfl (by rfl) hra zbx ?_))
         refine (HIN.out _).mono ?_; rintro e w4 ⟨rfl, hb⟩; have HB4 := Lib.hid (HBL.out.trans (hb.mono HBL.out.size)); clear hb; cases hIg : inG (D : Int) B P f.d f.b f.p with
         | true =>
          go_wp2_with fail
          go_ret
          exact ⟨by rw [HR2.out, hIg]; rfl, HB4.out⟩
         | false =>
          go_wp2_with fail
          go_ret
          exact ⟨by rw [HR2.out, hIg]; rfl, HB4.out⟩
       · go_wp2_with fail
         go_ret
         exact ⟨by rw [HRES.out, decide_eq_true a1, decide_eq_true a2, decide_eq_false (by omega)]; rfl, HBL.out⟩
     · go_wp2_with fail
       go_ret
       exact ⟨by rw [HRES.out, decide_eq_true a1, decide_eq_false (by omega)]; rfl, HBL.out⟩
   · go_wp2_with fail
     go_ret
     exact ⟨by rw [HRES.out, decide_eq_false (by omega)]; rfl, HBL.out⟩
def diesI (l : List Flt) : Int := l.foldl (fun m f => withI m f.d) 0
theorem dies_step {l : List Flt} {k : Nat} {f : Flt} (h : l[k]? = some f) : diesI (l.take (k + 1)) = withI (diesI (l.take k)) f.d := by
 have hk := (List.getElem?_eq_some_iff.1 h).1
 have hc := (List.getElem?_eq_some_iff.1 h).2
 rw [List.take_succ_eq_append_getElem hk, hc]
 simp [diesI, List.foldl_append]
set_option maxRecDepth 100000 in
set_option maxHeartbeats 4000000 in
theorem dies_of (l : List Flt) (A : Option Addr) (n c B : Nat) (w : World) (hr : Rds w B A 7 n (flts l)) (hB : B ≤ w.heap.size) (hn : n ≤ 1000000) :
 Calls Tryz.prog 112 #[.slice A n c] w fun e w' => e = .returned (.int .i64 (diesI l)) ∧ Below w.heap.size w w' := by
 have hl : l.length = n := by have := hr.1; simpa [flts] using this
 have HR := Lib.hid hr
 have HL := Lib.hid hl
 have HB := Lib.hid hB
 clear hr hl hB
 go_enter Tryz.func112, Tryz.ntmps112
 go_wp2_with fail
 go_loopw [3, 5, 8] (fun m _ i wr => ∃ k : Nat, k ≤ n ∧ i = .int .i64 k ∧ m = .int .i64 (diesI (l.take k)) ∧ Below w.heap.size w wr) (fun _ _ i _ => n - (intOf i).toNat)
 case atStart => exact ⟨0, by omega, rfl, rfl, Below.refl _ _⟩
 case round =>
  obtain ⟨k, hk, rfl, rfl, hb⟩ := hrel; by_cases hlt : k < n
  · have hkl : k < l.length := by rw [HL.out]; exact hlt
    obtain ⟨x, hKx⟩ : ∃ x, l[k]? = some x := ⟨_, List.getElem?_eq_getElem hkl⟩; obtain ⟨bb, oo, rfl, hbb, hRr⟩ := za8 (HR.out.below hb HB.out) hlt (r := x.v) (flts_at hKx); have hltI : (k : Int) < (n : Int) := by omega
    have HST := Lib.hid (dies_step hKx); have HBk := Lib.hid hb; clear hKx hb hkl; generalize hm : diesI (l.take k) = m at *; clear hm; go_wp2_with (first | (refine wpList_load_mid rfl 87 (.tmp 10) rfl bb (oo + k * 7) rfl x.v _ hRr Tryz.underlying87 rfl fltInfo ?_) | (refine zai rfl 87 (.tmp 5) (.tmp 11) rfl wr.heap.size x.v rfl rfl 87 _ (zak wr _ _ rfl) fltInfo rfl (one_flt x) ?_; intro w5 hU5; have c2 := flt_c2 hU5.at_; have hb5 := hU5.below ((Below.refl _ wr).alloc (Nat.le_refl _) _) (Nat.le_refl _); clear hU5))
    refine (with_any _ _ _).mono ?_; rintro e w6 ⟨rfl, rfl⟩; have HB6 := Lib.hid (HBk.out.trans (hb5.mono HBk.out.size)); clear hb5 hRr; go_wp2_with fail
    go_roundw
    case rel => exact ⟨k + 1, by omega, by go_num, by rw [HST.out], HB6.out⟩
    case measure => simp [intOf]; omega
  · obtain rfl : k = n := by omega
    have HE := Lib.hid (show diesI (l.take k) = diesI l by rw [List.take_of_length_le (by rw [HL.out]; exact Nat.le_refl _)]); generalize hm : diesI (l.take k) = m at *; clear hm; go_wp2_with fail
    go_ret
    exact ⟨by rw [← HE.out]; rfl, hb⟩
theorem cloneF_any (A : Option Addr) (n c B : Nat) (l : List Flt) (w : World) (hr : Rds w B A 7 n (flts l)) (hB : B ≤ w.heap.size) (hn : n ≤ 1000) : Calls Tryz.prog 163 #[.slice A n c] w fun e w' =>
 ∃ v, e = .returned v ∧ OwnRows w' w.heap.size 87 7 v n (flts l) ∧ Below w.heap.size w w' := by
 cases A with
 | some a =>
  have hq := fun W : World => Lib.run_eql_slice_nil (P := Tryz.prog) W 151 87 (some a) n c 0 0 Tryz.underlying151
  have hmade : OwnRows (w.alloc (.cells #[] 87)) w.heap.size 87 7 (.slice (some ⟨w.heap.size, 0, none⟩) 0 0) 0 [] := ⟨World.ownsRow_made w #[] 0 (Nat.le_refl _) (by unfold maxLen; omega) rfl, rfl, by simp⟩; have hbel : Below w.heap.size w (w.alloc (.cells #[] 87)) := (Below.refl _ _).alloc (Nat.le_refl _) _; have hr2 : Rds (w.alloc (.cells #[] 87)) B (some a) 7 n (flts l) := hr.below hbel hB; go_enter Tryz.func163, Tryz.ntmps163
  go_wp2_with (at_builtin; go_must (refine za9 rfl (.tmp 5) (.tmp 6) 151 rfl 87 _ 7 56 Tryz.underlying151 fltInfo3 rfl (by decide) hmade hbel rfl rfl hr2 (one_flts _) (by unfold maxLen; omega) (by omega) (by simp) (Nat.le_refl _) ?_))
  intro v1 w1 hown1 hbel1 _ _; go_wp2
  go_ret
  exact ⟨_, rfl, by simpa using hown1, hbel1⟩
 | none =>
  have hn0 : n = 0 := by
   rcases Nat.eq_zero_or_pos n with h | h
   · exact h
   · obtain ⟨b, o, e, _⟩ := hr.2.2 h; cases e
  subst hn0; have hl : flts l = [] := List.eq_nil_of_length_eq_zero hr.1; rw [hl]; have hq := fun W : World => Lib.run_eql_slice_nil (P := Tryz.prog) W 151 87 none 0 c 0 0 Tryz.underlying151
  go_enter Tryz.func163, Tryz.ntmps163
  go_wp2
  go_ret
  exact ⟨_, rfl, OwnRows.nil, Below.refl _ _⟩
set_option maxRecDepth 100000 in
theorem ins_le1 (A : Option Addr) (n c : Nat) (fv : Value) (w : World) (hn : n ≤ 1) : Calls Tryz.prog 180 #[.slice A n c, .int .i64 0, .int .i64 (n : Int), fv] w fun e w' => e = .returned (.tuple #[]) ∧ w = w' := by
 have h1 : ¬ (1 : Int) < (n : Int) := by omega
 go_enter Tryz.func180, Tryz.ntmps180
 go_wp2_with fail
 go_loopw [8] (fun i wr => i = .int .i64 1 ∧ wr = w) (fun _ _ => 0)
 case atStart => exact ⟨rfl, rfl⟩
 case round =>
  obtain ⟨rfl, rfl⟩ := hrel; go_wp2_with fail
  go_end0
  exact ⟨rfl, rfl⟩
set_option maxRecDepth 100000 in
theorem stable_le1 (A : Option Addr) (n c : Nat) (fv : Value) (w : World) (hn : n ≤ 1) : Calls Tryz.prog 149 #[.slice A n c, .int .i64 (n : Int), fv] w fun e w' => e = .returned (.tuple #[]) ∧ w = w' := by
 have h1 : ¬ (20 : Int) ≤ (n : Int) := by omega
 have h2 : ¬ (20 : Int) < (n : Int) := by omega
 have hI := Lib.hid (ins_le1 A n c fv w hn)
 go_enter Tryz.func149, Tryz.ntmps149
 go_wp2_with fail
 go_loopw [7, 8] (fun a b wr => a = .int .i64 0 ∧ b = .int .i64 20 ∧ wr = w) (fun _ _ _ => 0)
 case atStart => exact ⟨rfl, rfl, rfl⟩
 case round =>
  obtain ⟨rfl, rfl, rfl⟩ := hrel; go_wp2_with fail
  refine hI.out.mono ?_; rintro e w6 ⟨rfl, rfl⟩; go_wp2_with fail
  go_loopw [6] (fun a wx => a = .int .i64 20 ∧ wx = wr) (fun _ _ => 0)
  case atStart => exact ⟨rfl, rfl⟩
  case round =>
   obtain ⟨rfl, rfl⟩ := hrel; go_wp2_with fail
   go_end0
   exact ⟨rfl, rfl⟩
theorem sort_le1 (A : Option Addr) (n c : Nat) (fv : Value) (w : World) (hn : n ≤ 1) :
 Calls Tryz.prog 127 #[.slice A n c, fv] w fun e w' => e = .returned (.tuple #[]) ∧ w = w' := by
 have hI := Lib.hid (stable_le1 A n c fv w hn)
 go_enter Tryz.func127, Tryz.ntmps127
 go_wp2_with fail
 refine hI.out.mono ?_
 rintro e w6 ⟨rfl, rfl⟩
 go_wp2_with fail
 go_end0
 exact ⟨rfl, rfl⟩
end Go.Proofs.YtpbigfopmompfaaGreat.nand
namespace Go.Proofs.YtpbigfopmompfaaGreat.nand
open Go.RowKit
set_option linter.unusedVariables false
structure PlanAt (w : World) (base pp : Nat) (A : Option Addr) (c : Nat) (l : List Flt) : Prop where
 head : w.heap[pp]? = some (.cells #[.slice A l.length c] 175 (0, 0))
 low : base ≤ pp
 rows : Rds w w.heap.size A 7 l.length (flts l)
 at_ : 0 < l.length → ∃ gb off cs fr, A = some ⟨gb, off, none⟩ ∧ w.heap[gb]? = some (.cells cs 87 fr) ∧ base ≤ gb
 cap : l.length ≤ c ∧ c ≤ maxLen
 wf : ∀ f ∈ l, f.wf
theorem flts_len {l : List Flt} : ∀ r ∈ flts l, r.length = 7 := by
 intro r hr
 obtain ⟨x, _, rfl⟩ := List.mem_map.1 hr
 rfl
section
variable {w w' : World} {base pp c : Nat} {A : Option Addr} {l : List Flt}
theorem PlanAt.keep (h : PlanAt w base pp A c l) (hs : w.heap.size ≤ w'.heap.size) (hk : ∀ k cs t fr, w.heap[k]? = some (.cells cs t fr) → (t = 175 ∨ t = 87) → base ≤ k → w'.heap[k]? = some (.cells cs t fr)) : PlanAt w' base pp A c l := by
 refine ⟨hk _ _ _ _ h.head (.inl rfl) h.low, h.low, ⟨h.rows.1, h.rows.2.1, fun hn => ?_⟩, fun hn => ?_, h.cap, h.wf⟩
 · obtain ⟨b, o, e, hb, hc⟩ := h.rows.2.2 hn
   obtain ⟨gb, off, cs, fr, e', hg, hbg⟩ := h.at_ hn; rw [e] at e'; cases e'
   refine ⟨b, o, e, by omega, fun i r j u h1 h2 => ?_⟩; have h3 := hc i r j u h1 h2; have h4 := hk _ _ _ _ hg (.inr rfl) hbg; exact (World.cell?_of_block (h4.trans hg.symm)).trans h3
 · obtain ⟨gb, off, cs, fr, e', hg, hbg⟩ := h.at_ hn
   exact ⟨gb, off, cs, fr, e', hk _ _ _ _ hg (.inr rfl) hbg, hbg⟩
theorem PlanAt.below (h : PlanAt w base pp A c l) (hb : Below w.heap.size w w') : PlanAt w' base pp A c l := h.keep hb.size fun k cs t fr hk _ _ => zad hk hb
theorem PlanAt.fr {b g : Nat} (h : PlanAt w base pp A c l) (hf : Fr b g w w') : PlanAt w' base pp A c l := h.keep hf.size fun k cs t fr hk ht _ => hf.blk hk (by rcases ht with rfl | rfl <;> rfl)
end
theorem built_plan : Tryz.prog.built 175 [] = some #[.slice none 0 0] := by kernel_rfl
set_option maxRecDepth 100000 in
set_option maxHeartbeats 8000000 in
theorem plan_new (D B P : Nat) (ok : D ≤ 6 ∧ B ≤ 16 ∧ P ≤ 8) (l : List Flt) (hwf : ∀ f ∈ l, f.wf) (A : Option Addr) (n c B0 : Nat) (w : World) (hr : Rds w B0 A 7 n (flts l)) (hB0 : B0 ≤ w.heap.size) (hn : n ≤ 1000) (S : List Flt → List Flt) (hS : ∀ l, (S l).Perm l)
 (hsort : ∀ (v : Value) (base : Nat) (w' : World), OwnRows w' base 87 7 v (l.filter (mayF D B P)).length (flts (l.filter (mayF D B P))) → base ≤ w'.heap.size → Calls Tryz.prog 127 #[v, .func (.func 128) #[] #[]] w' fun e w'' => e = .returned (.tuple #[]) ∧ OwnRows w'' base 87 7 v (l.filter (mayF D B P)).length (flts (S (l.filter (mayF D B P)))) ∧ w'.grownBy w'' v.ownBlock) :
 Calls Tryz.prog 105 #[.agg ([.int .i64 (D : Int), .int .i64 (B : Int), .int .i64 (P : Int)]).toArray, .slice A n c] w fun e w' => ∃ pp A' c', e = .returned (.pointer (some ⟨pp, 0, none⟩)) ∧ PlanAt w' w.heap.size pp A' c' (S (l.filter (mayF D B P))) ∧ Below w.heap.size w w' := by
 have hl : l.length = n := by have := hr.1; simpa [flts] using this
 have ha := zbi w (.cells ([.int .i64 (D : Int), .int .i64 (B : Int), .int .i64 (P : Int)]).toArray 39) (.cells #[.slice none 0 0] 175)
 have hp := zak (w.alloc (.cells ([.int .i64 (D : Int), .int .i64 (B : Int), .int .i64 (P : Int)]).toArray 39)) (.cells #[.slice none 0 0] 175) (w.heap.size + 1) (by simp)
 have hbel := below2 w (.cells ([.int .i64 (D : Int), .int .i64 (B : Int), .int .i64 (P : Int)]).toArray 39) (.cells #[.slice none 0 0] 175)
 have hr2 := hr.below hbel hB0
 have HST := Lib.hid (And.intro (OwnRows.nil (w := (w.alloc (.cells ([.int .i64 (D : Int), .int .i64 (B : Int), .int .i64 (P : Int)]).toArray 39)).alloc (.cells #[.slice none 0 0] 175)) (base := w.heap.size) (e := 87) (C := 7)) (And.intro ha (And.intro hp hbel)))
 have HR := Lib.hid hr
 have HL := Lib.hid hl
 have HB0 := Lib.hid hB0
 have HWF := Lib.hid hwf
 have HSO := Lib.hid hsort
 have HOK := Lib.hid ok
 clear hr hl hB0 hwf hsort ok ha hp hbel hr2
 go_enter Tryz.func105, Tryz.ntmps105
 go_wp2_with (first | (refine zao rfl 175 _ rfl [] rfl [.slice none 0 0] built_plan ?_))
 obtain ⟨pp, hpp⟩ : ∃ pp, pp = w.heap.size + 1 := ⟨_, rfl⟩
 rw [← hpp] at HST ⊢
 have HPP := Lib.hid (show w.heap.size ≤ pp by omega)
 clear hpp
 go_loopw [7, 12] (fun _ i wr => ∃ (k : Nat) (v0 : Value), k ≤ n ∧ i = .int .i64 k ∧ OwnRows wr w.heap.size 87 7 v0 ((l.take k).filter (mayF D B P)).length (flts ((l.take k).filter (mayF D B P))) ∧ wr.heap[w.heap.size]? = some (.cells ([.int .i64 (D : Int), .int .i64 (B : Int), .int .i64 (P : Int)]).toArray 39 (0, 0)) ∧ wr.heap[pp]? = some (.cells #[v0] 175 (0, 0)) ∧ Below w.heap.size w wr) (fun _ i _ => n - (intOf i).toNat)
 case atStart => exact ⟨0, .slice none 0 0, by omega, rfl, HST.out⟩
 case round =>
  obtain ⟨k, v0, hk, rfl, hown, hg, hp, hb⟩ := hrel; by_cases hlt : k < n
  · have hkl : k < l.length := by rw [HL.out]; exact hlt
    obtain ⟨x, hKx⟩ : ∃ x, l[k]? = some x := ⟨_, List.getElem?_eq_getElem hkl⟩; obtain ⟨bb, oo, rfl, hbb, hRr⟩ := za8 (HR.out.below hb HB0.out) hlt (r := x.v) (flts_at hKx); have hltI : (k : Int) < (n : Int) := by omega
    have htk : l.take (k + 1) = l.take k ++ [x] := by rw [List.take_succ_eq_append_getElem hkl, (List.getElem?_eq_some_iff.1 hKx).2]
    obtain ⟨kept, hkept⟩ : ∃ kept, kept = (l.take k).filter (mayF D B P) := ⟨_, rfl⟩; rw [← hkept] at hown; have hnx : (l.take (k + 1)).filter (mayF D B P) = kept ++ (if mayF D B P x then [x] else []) := by rw [htk, List.filter_append, ← hkept]; simp only [List.filter_cons, List.filter_nil]
    have HNX := Lib.hid hnx; have hK8 : kept.length ≤ k := by rw [hkept]; exact Nat.le_trans (List.length_filter_le _ _) (by simp; omega)
    obtain ⟨K, hKK⟩ : ∃ K, K = kept.length := ⟨_, rfl⟩; rw [← hKK] at hown hK8; have HKK := Lib.hid hKK; have HO := Lib.hid hown; have HG := Lib.hid hg; have HV := Lib.hid hp; have HBk := Lib.hid hb; have hbw : w.heap.size ≤ wr.heap.size := hb.size; clear htk hkept hnx hKK hKx hkl hown hg hp hb; go_wp2_with (first | (refine wpList_load_mid rfl 87 (.tmp 14) rfl bb (oo + k * 7) rfl x.v _ hRr Tryz.underlying87 rfl fltInfo ?_) | (refine zai rfl 87 (.tmp 7) (.tmp 15) rfl wr.heap.size x.v rfl rfl 87 _ (zak wr _ _ rfl) fltInfo rfl (one_flt x) ?_; intro w5 hU5; have h5 := hU5.at_; have hb5 := hU5.below ((Below.refl _ wr).alloc (Nat.le_refl _) _) (Nat.le_refl _); have hg5 := zal (cs := [.int .i64 (D : Int), .int .i64 (B : Int), .int .i64 (P : Int)]) (zad HG.out hb5); have hf5 := zal h5; clear hU5) | (refine wpList_load_mid rfl 39 (.tmp 2) rfl w.heap.size 0 rfl [.int .i64 (D : Int), .int .i64 (B : Int), .int .i64 (P : Int)] _ hg5 Tryz.underlying39 rfl geoInfo ?_) | (refine wpList_load_mid rfl 87 (.tmp 7) rfl wr.heap.size 0 rfl x.v _ hf5 Tryz.underlying87 rfl fltInfo ?_))
    refine (may_any D B P x _ HOK.out).mono ?_; rintro e w6 ⟨rfl, hb6⟩; obtain ⟨t7b, ht7⟩ : ∃ t7b, t7b = wr.heap.size := ⟨_, rfl⟩; have HB56 := Lib.hid (hb5.trans (hb6.mono hb5.size)); have HF6 := Lib.hid (zad h5 hb6); have HG6 := Lib.hid (zad HG.out HB56.out); have HV6 := Lib.hid (zad HV.out HB56.out); have HO6 := Lib.hid (HO.out.below HB56.out); have HB6 := Lib.hid (HBk.out.trans (HB56.out.mono hbw)); have HA6 := Lib.hid (show v0.ownBlock ≠ some t7b from fun e => by have := (own_lt HO.out t7b e).2; omega); have HK6 := Lib.hid (show K ≤ 1000 by omega); rw [← ht7] at HF6 ⊢; clear hb5 hb6 h5 hg5 hf5 hRr ht7 HB56 HO HG HV; cases hm : mayF D B P x with
    | true =>
     rw [hm] at HNX; clear hm; go_upto_region 6 with fail
     refine zan (by kernel_rfl) (by kernel_rfl) (X := Nat × Value) (fun y => [(some 19, .pointer (some ⟨pp, 0, none⟩)), (some 20, .pointer (some ⟨pp, 0, none⟩)), (some 21, .pointer (some ⟨pp, 0, none⟩)), (some 22, .pointer (some ⟨pp, 0, none⟩)), (some 23, v0), (some 24, .agg x.v.toArray), (some 25, .slice (some ⟨y.1, 0, none⟩) 1 1), (some 26, y.2), (some 27, .pointer (some ⟨pp, 0, none⟩)), (some 28, .pointer (some ⟨pp, 0, none⟩)), (none, undef)])
      (fun y L w' => w'.heap[t7b]? = some (.cells x.v.toArray 87 (0, 0)) ∧ w'.heap[w.heap.size]? = some (.cells ([.int .i64 (D : Int), .int .i64 (B : Int), .int .i64 (P : Int)]).toArray 39 (0, 0)) ∧ (L 10 = false → w'.heap[pp]? = some (.cells #[v0] 175 (0, 0))) ∧ (L 7 = false → OwnRows w' w.heap.size 87 7 v0 K (flts kept)) ∧ (L 6 = true → L 7 = false → w'.heap[y.1]? = some (.cells x.v.toArray 87 (0, 0))) ∧ (L 7 = true → (L 4 = true ∧ L 6 = true) ∧ OwnRows w' w.heap.size 87 7 y.2 (K + 1) (flts kept ++ [x.v])) ∧ (L 10 = true → L 7 = true ∧ w'.heap[pp]? = some (.cells #[y.2] 175 (0, 0))) ∧ Below w.heap.size w w') (fun _ => rfl) (by kernel_rfl) ⟨(0, undef), fun L hL => ⟨HF6.out, HG6.out, (fun _ => HV6.out), (fun _ => HO6.out.below (Below.refl _ _).drew), (by rw [hL 6]; intro h; cases h), (by rw [hL 7]; intro h; cases h), (by rw [hL 10]; intro h; cases h), HB6.out.drew⟩⟩ ?_ ?_
     · refine ⟨?_, ?_, ?_, ?_, ?_, ?_, ?_, ?_, ?_, ?_, ?_, trivial⟩
       · intro y L w' hL hpre hJ a ha
         obtain ⟨jf, jg, jv, jo, j6, j7, jt, jb⟩ := hJ; simp [Region.binds] at hpre; refine .inl ⟨zaa rfl, ?_⟩; exact zah (.tmp 5) (.inl rfl) (.pointer (some ⟨pp, 0, none⟩)) (by rw [ha, zac rfl]; rfl) ⟨y, _, rfl, rfl, jf, jg, jv, jo, j6, j7, jt, jb⟩
       · intro y L w' hL hpre hJ a ha
         obtain ⟨jf, jg, jv, jo, j6, j7, jt, jb⟩ := hJ; simp [Region.binds] at hpre; refine .inl ⟨zaa rfl, ?_⟩; exact zah (.tmp 5) (.inl rfl) (.pointer (some ⟨pp, 0, none⟩)) (by rw [ha, zac rfl]; rfl) ⟨y, _, rfl, rfl, jf, jg, jv, jo, j6, j7, jt, jb⟩
       · intro y L w' hL hpre hJ a ha
         obtain ⟨jf, jg, jv, jo, j6, j7, jt, jb⟩ := hJ; simp [Region.binds] at hpre; refine .inl ⟨zaa rfl, ?_⟩; have e20 : a.eval (.tmp 20) = .pointer (some ⟨pp, 0, none⟩) := evP ha 1 rfl (by simp [hpre]) (by simp) rfl; clear ha; have jf' := Lib.hid jf; have jg' := Lib.hid jg; have jv' := Lib.hid jv; have jo' := Lib.hid jo; have j6' := Lib.hid j6; have j7' := Lib.hid j7; have jt' := Lib.hid jt; have jb' := Lib.hid jb; clear jf jg jv jo j6 j7 jt jb; refine zab fun K HK => ?_; unfold Oper.wp; simp only [execOp, e20]; go_simp; exact HK.out _ _ ⟨y, _, rfl, rfl, jf'.out, jg'.out, jv'.out, jo'.out, j6'.out, j7'.out, jt'.out, jb'.out⟩
       · intro y L w' hL hpre hJ a ha
         obtain ⟨jf, jg, jv, jo, j6, j7, jt, jb⟩ := hJ; simp [Region.binds] at hpre; refine .inl ⟨zaa rfl, ?_⟩; have e21 : a.eval (.tmp 21) = .pointer (some ⟨pp, 0, none⟩) := evP ha 2 rfl (by simp [hpre]) (by simp) rfl; clear ha; have jf' := Lib.hid jf; have jg' := Lib.hid jg; have jv' := Lib.hid jv; have jo' := Lib.hid jo; have j6' := Lib.hid j6; have j7' := Lib.hid j7; have jt' := Lib.hid jt; have jb' := Lib.hid jb; clear jf jg jv jo j6 j7 jt jb; refine zab fun K HK => ?_; unfold Oper.wp; simp only [execOp, e21]; go_simp; exact HK.out _ _ ⟨y, _, rfl, rfl, jf'.out, jg'.out, jv'.out, jo'.out, j6'.out, j7'.out, jt'.out, jb'.out⟩
       · intro y L w' hL hpre hJ a ha
         obtain ⟨jf, jg, jv, jo, j6, j7, jt, jb⟩ := hJ; simp [Region.binds] at hpre; refine .inl ⟨zaa rfl, ?_⟩; have e22 : a.eval (.tmp 22) = .pointer (some ⟨pp, 0, none⟩) := evP ha 3 rfl (by simp [hpre]) (by simp) rfl
         have hN : L 10 = false := by
          cases h : L 10 with
          | false => rfl
          | true => exact absurd ((j7 (jt h).1).1.1) (by simp [hL])
         have cc : w'.cell? ⟨pp, 0, none⟩ = some v0 := by rw [zaf (jv hN)]; rfl
         have jf' := Lib.hid jf; have jg' := Lib.hid jg; have jv' := Lib.hid jv; have jo' := Lib.hid jo; have j6' := Lib.hid j6; have j7' := Lib.hid j7; have jt' := Lib.hid jt; have jb' := Lib.hid jb; clear ha jf jg jv jo j6 j7 jt jb; refine zab fun K HK => ?_; unfold Oper.wp; simp only [execOp, e22]; go_simp; exact HK.out _ _ ⟨y, _, rfl, rfl, jf'.out, jg'.out, jv'.out, jo'.out, j6'.out, fun h => ⟨⟨by simp [also], (j7'.out h).1.2⟩, (j7'.out h).2⟩, jt'.out, jb'.out⟩
       · intro y L w' hL hpre hJ a ha
         obtain ⟨jf, jg, jv, jo, j6, j7, jt, jb⟩ := hJ; simp [Region.binds] at hpre; refine .inl ⟨zaa rfl, ?_⟩; have e7 : a.eval (.tmp 7) = .pointer (some ⟨t7b, 0, none⟩) := by rw [ha, zac rfl]; rfl
         exact wp_load_mid 87 (.tmp 7) rfl t7b 0 e7 x.v _ (zal jf) Tryz.underlying87 rfl fltInfo ⟨y, _, rfl, rfl, jf, jg, jv, jo, j6, j7, jt, jb⟩
       · intro y L w' hL hpre hJ a ha
         obtain ⟨jf, jg, jv, jo, j6, j7, jt, jb⟩ := hJ; simp [Region.binds] at hpre; refine .inl ⟨zaa rfl, ?_⟩; have e24 : a.eval (.tmp 24) = .agg x.v.toArray := evP ha 5 rfl (by simp [hpre]) (by simp) rfl
         have h7 : L 7 = false := by
          cases h : L 7 with
          | false => rfl
          | true => exact absurd ((j7 h).1.2) (by simp [hL])
         have hN : L 10 = false := by
          cases h : L 10 with
          | false => rfl
          | true => exact absurd (jt h).1 (by simp [h7])
         refine wp_buildOne 151 (.tmp 24) rfl 87 x.v _ 7 56 e24 Tryz.underlying151 fltInfo3 rfl (by decide) (by decide) ?_; have hb := zax w' (.cells x.v.toArray 87); exact ⟨(w'.heap.size, y.2), _, rfl, rfl, zad jf hb, zad jg hb, fun _ => zad (jv hN) hb, fun _ => (jo h7).below hb, fun _ _ => zak _ _ _ rfl, fun h => absurd h (by rw [show also L 6 7 = L 7 from rfl, h7]; simp), fun h => absurd h (by rw [show also L 6 10 = L 10 from rfl, hN]; simp), jb.trans (hb.mono jb.size)⟩
       · intro y L w' hL hpre hJ a ha
         obtain ⟨jf, jg, jv, jo, j6, j7, jt, jb⟩ := hJ; simp [Region.binds] at hpre; refine .inl ⟨zaa rfl, ?_⟩; have e23 : a.eval (.tmp 23) = v0 := evP ha 4 rfl (by simp [hpre]) (by simp) rfl; have e25 : a.eval (.tmp 25) = .slice (some ⟨y.1, 0, none⟩) 1 1 := evP ha 6 rfl (by simp [hpre]) (by simp) rfl; have h6 : L 6 = true := by simp [hpre]
         have h4 : L 4 = true := by simp [hpre]
         have hN : L 10 = false := by
          cases h : L 10 with
          | false => rfl
          | true => exact absurd (jt h).1 (by simp [hL])
         have q2 := j6 h6 hL; have hv := jv hN; have ho := jo hL; refine zb5 (.tmp 23) (.tmp 25) 151 rfl 87 _ 7 56 Tryz.underlying151 fltInfo3 rfl (by decide) (base := w.heap.size) (B := w.heap.size) ho jb e23 e25 (rds_one (row := x.v) q2) (fun r hr => by rw [List.mem_singleton.1 hr]; exact one_flt x) (by have := HK6.out; unfold maxLen; omega) (by have := HK6.out; omega) jb.size (Nat.le_refl _) ?_; intro v' w'' hown hb' hgr hat; have hpp : w''.heap[pp]? = some (.cells #[v0] 175 (0, 0)) := (hgr.block pp (zag hv) (fun e => by obtain ⟨cur, hc, -⟩ := za5 ho.1 e.symm; rw [hc] at hv; simp at hv)).trans hv; have hff : w''.heap[t7b]? = some (.cells x.v.toArray 87 (0, 0)) := (hgr.block _ (zag jf) (fun e => HA6.out e.symm)).trans jf; have hgg : w''.heap[w.heap.size]? = some (.cells ([.int .i64 (D : Int), .int .i64 (B : Int), .int .i64 (P : Int)]).toArray 39 (0, 0)) := (hgr.block _ (zag jg) (fun e => by obtain ⟨cur, hc, -⟩ := za5 ho.1 e.symm; rw [hc] at jg; simp at jg)).trans jg; exact ⟨(y.1, v'), _, rfl, rfl, hff, hgg, fun _ => hpp, (fun h => by simp [also] at h), (fun _ h => by simp [also] at h), fun _ => ⟨⟨h4, h6⟩, hown⟩, fun h => absurd h (by rw [show also L 7 10 = L 10 from rfl, hN]; simp), hb'⟩
       · intro y L w' hL hpre hJ a ha
         obtain ⟨jf, jg, jv, jo, j6, j7, jt, jb⟩ := hJ; simp [Region.binds] at hpre; refine .inl ⟨zaa rfl, ?_⟩; have e19 : a.eval (.tmp 19) = .pointer (some ⟨pp, 0, none⟩) := evP ha 0 rfl (by simp [hpre]) (by simp) rfl; clear ha; have jf' := Lib.hid jf; have jg' := Lib.hid jg; have jv' := Lib.hid jv; have jo' := Lib.hid jo; have j6' := Lib.hid j6; have j7' := Lib.hid j7; have jt' := Lib.hid jt; have jb' := Lib.hid jb; clear jf jg jv jo j6 j7 jt jb; refine zab fun K HK => ?_; unfold Oper.wp; simp only [execOp, e19]; go_simp; exact HK.out _ _ ⟨y, _, rfl, rfl, jf'.out, jg'.out, jv'.out, jo'.out, j6'.out, j7'.out, jt'.out, jb'.out⟩
       · intro y L w' hL hpre hJ a ha
         obtain ⟨jf, jg, jv, jo, j6, j7, jt, jb⟩ := hJ; simp [Region.binds] at hpre; refine .inl ⟨zaa rfl, ?_⟩; have e27 : a.eval (.tmp 27) = .pointer (some ⟨pp, 0, none⟩) := evP ha 8 rfl (by simp [hpre]) (by simp) rfl; clear ha; have jf' := Lib.hid jf; have jg' := Lib.hid jg; have jv' := Lib.hid jv; have jo' := Lib.hid jo; have j6' := Lib.hid j6; have j7' := Lib.hid j7; have jt' := Lib.hid jt; have jb' := Lib.hid jb; clear jf jg jv jo j6 j7 jt jb; refine zab fun K HK => ?_; unfold Oper.wp; simp only [execOp, e27]; go_simp; exact HK.out _ _ ⟨y, _, rfl, rfl, jf'.out, jg'.out, jv'.out, jo'.out, j6'.out, j7'.out, jt'.out, jb'.out⟩
       · intro y L w' hL hpre hJ a ha
         obtain ⟨jf, jg, jv, jo, j6, j7, jt, jb⟩ := hJ; simp [Region.binds] at hpre; refine .inl ⟨zaa rfl, ?_⟩; have e28 : a.eval (.tmp 28) = .pointer (some ⟨pp, 0, none⟩) := evP ha 9 rfl (by simp [hpre]) (by simp) rfl; have e26 : a.eval (.tmp 26) = y.2 := evP ha 7 rfl (by simp [hpre]) (by simp) rfl; have h7 : L 7 = true := by simp [hpre]
         obtain ⟨h46, ho⟩ := j7 h7; have hv := jv hL; obtain ⟨A9, c9, hv9, -, -⟩ := ho.slice; have cc : w'.cell? ⟨pp, 0, none⟩ = some v0 := by rw [zaf hv]; rfl
         have ff := zar hv 0; have hU := zas (cs := [v0]) (i := 0) hv y.2; have hne : y.2.ownBlock ≠ some pp := fun e => by obtain ⟨cur, hc, -⟩ := za5 ho.1 e; rw [hc] at hv; simp at hv
         have hnf : t7b ≠ pp := za3 jf hv (by simp [kindO] <;> decide); have hng : w.heap.size ≠ pp := za3 jg hv (by simp [kindO] <;> decide); have HH := Lib.hid (And.intro (hU.old jf hnf) (And.intro (hU.old jg hng) (And.intro (ho.upd hU hne) (And.intro hU.at_ (And.intro (hU.below jb HPP.out) (And.intro h46 h7)))))); rw [hv9] at HH; clear hU hne hv ho jf jg jv jo j6 j7 jt jb ha; refine zab fun K HK => ?_; unfold Oper.wp; simp only [execOp, e28, e26, hv9]; go_simp; exact HK.out _ _ ⟨y, _, rfl, rfl, HH.out.1, HH.out.2.1, (fun h => by simp [also] at h), (fun h => absurd HH.out.2.2.2.2.2.2 (by rw [show also L 10 7 = L 7 from rfl] at h; simp [h])), (fun _ h => absurd HH.out.2.2.2.2.2.2 (by rw [show also L 10 7 = L 7 from rfl] at h; simp [h])), fun _ => ⟨HH.out.2.2.2.2.2.1, by rw [hv9]; exact HH.out.2.2.1⟩, fun _ => ⟨HH.out.2.2.2.2.2.2, by rw [hv9]; exact HH.out.2.2.2.1⟩, HH.out.2.2.2.2.1⟩
     · intro y L w' hL hJ
       obtain ⟨jf, jg, jv, jo, j6, j7, jt, jb⟩ := hJ; obtain ⟨-, hown⟩ := j7 (hL 7 (by decide)); obtain ⟨-, hhd⟩ := jt (hL 10 (by decide)); clear hL jf jv jo j6 j7 jt; simp only [List.foldl_cons, List.foldl_nil]; go_simp; have HOn := Lib.hid hown; have HHn := Lib.hid hhd; have HGn := Lib.hid jg; have HBn := Lib.hid jb; clear hown hhd jg jb; go_wp2_with fail
       go_roundw
       case rel => exact ⟨k + 1, y.2, by omega, by go_num, by rw [HNX.out]; simp only [if_true]; rw [List.length_append, ← HKK.out, flts, List.map_append]; exact HOn.out, HGn.out, HHn.out, HBn.out⟩
       case measure => simp [intOf]; omega
    | false =>
     rw [hm] at HNX; clear hm; go_wp2_with fail
     go_roundw
     case rel => exact ⟨k + 1, v0, by omega, by go_num, by rw [HNX.out]; simp only [Bool.false_eq_true, if_false, List.append_nil]; rw [← HKK.out]; exact HO6.out, HG6.out, HV6.out, HB6.out⟩
     case measure => simp [intOf]; omega
  · obtain rfl : k = n := by omega
    rw [List.take_of_length_le (by rw [HL.out]; exact Nat.le_refl _)] at hown; have cc : wr.cell? ⟨pp, 0, none⟩ = some v0 := by rw [zaf hp]; rfl
    have HO := Lib.hid hown; have HV := Lib.hid hp; have HBk := Lib.hid hb; have CS := Lib.hid (HSO.out v0 w.heap.size wr hown hb.size); clear hown hg hp; obtain ⟨M, hM⟩ : ∃ M, M = (l.filter (mayF D B P)).length := ⟨_, rfl⟩; go_wp2_with fail
    refine CS.out.mono ?_; rintro e w7 ⟨rfl, hown7, hgr7⟩; have HHd : Hid (w7.heap[pp]? = some (.cells #[v0] 175 (0, 0))) := Lib.hid ((hgr7.block pp (zag HV.out) (fun e => by have hv := HV.out; obtain ⟨cur, hc, -⟩ := za5 HO.out.1 e.symm; rw [hc] at hv; simp at hv)).trans HV.out); have HB7 := Lib.hid (HBk.out.grown hgr7 HBk.out.size (fun j hj => (own_lt HO.out j hj).1)); have HO7 := Lib.hid hown7; clear hown7 hgr7 CS cc hb; go_wp2_with fail
    go_ret
    obtain ⟨A7, c7, hv7, h71, h72⟩ := HO7.out.slice; have hlS := (hS (l.filter (mayF D B P))).length_eq; rw [hv7] at HHd HO7; refine ⟨pp, A7, c7, rfl, ⟨by rw [hlS]; exact HHd.out, HPP.out, by rw [hlS]; exact HO7.out.rds, fun hn => ?_, ⟨by rw [hlS]; exact h71, h72⟩, fun f hf => HWF.out f (List.mem_filter.1 ((hS _).mem_iff.1 hf)).1⟩, HB7.out⟩; rw [hlS] at hn; obtain ⟨g9, c9, e9, hb9, -⟩ := za7 HO7.out.1 hn; cases e9
    obtain ⟨cur, hcur, -⟩ := za5 HO7.out.1 (k := g9) rfl; exact ⟨g9, 0, cur, _, rfl, hcur, hb9⟩
theorem plan_new1 (D B P : Nat) (ok : D ≤ 6 ∧ B ≤ 16 ∧ P ≤ 8) (l : List Flt) (hwf : ∀ f ∈ l, f.wf) (A : Option Addr) (n c B0 : Nat) (w : World) (hr : Rds w B0 A 7 n (flts l)) (hB0 : B0 ≤ w.heap.size) (hn : n ≤ 1000) (h1 : (l.filter (mayF D B P)).length ≤ 1) :
 Calls Tryz.prog 105 #[.agg ([.int .i64 (D : Int), .int .i64 (B : Int), .int .i64 (P : Int)]).toArray, .slice A n c] w fun e w' => ∃ pp A' c', e = .returned (.pointer (some ⟨pp, 0, none⟩)) ∧ PlanAt w' w.heap.size pp A' c' (l.filter (mayF D B P)) ∧ Below w.heap.size w w' :=
 plan_new D B P ok l hwf A n c B0 w hr hB0 hn id (fun l => List.Perm.refl l) fun v base w' ho hb => by
  obtain ⟨A', c', rfl, -, -⟩ := ho.slice; refine (sort_le1 A' _ c' _ w' h1).mono ?_; rintro e w'' ⟨rfl, rfl⟩; exact ⟨rfl, ho, grown_refl _ _⟩
end Go.Proofs.YtpbigfopmompfaaGreat.nand
namespace Go.Proofs.YtpbigfopmompfaaGreat.nand
open Go.RowKit
set_option linter.unusedVariables false
theorem cut_high2 {P : Program} {t e : TypeId} (hu : P.underlying t = some (.slice e)) {w : World} {B C n c k : Nat} {A : Option Addr} {rows : List (List Value)} (hi : (P.info? e).map (·.size) = some C) (h : Rds w B A C n rows) (hk : k ≤ n) (hnc : n ≤ c) :
 ∃ A2, (∀ w, (Instr.sliceAt t (.slice A n c) (some (.int .i64 (k : Int))) none none).run P w = .ok (.slice A2 (n - k) (c - k)) w) ∧ Rds w B A2 C (n - k) (rows.drop k) ∧ (k < n → A2 = A.map (·.add (k * C))) := by
 have hu' : P.underlying t = some (.slice (P.elem t)) := by rw [elem_of hu]; exact hu
 refine ⟨if c = k then A else A.map (·.add (k * C)), fun w => ?_, h.drop hk fun hl => by rw [if_neg (by omega)], fun hl => by rw [if_neg (by omega)]⟩
 rw [run_sliceAt_slice _ _ _ _ _ _ hu', run_slice_l _ _ _ _ _ hu' _ _ (by omega) (by omega), elem_of hu, size_run hi]
 simp [sliced]
theorem pptr : Tryz.prog.underlying 147 = some (.pointer (Tryz.prog.pointee 147)) := by kernel_rfl
theorem pnonnil_eql (x : Addr) (w : World) : (binOp .eql 147 (.pointer (some x)) (.pointer none)).run Tryz.prog w = .ok (.bool false) w := run_eql_pointer_nil w 147 (some x) pptr
def dueN (l : List Flt) (t : Int) : Nat := (l.takeWhile fun f => decide (f.at_ ≤ t)).length
theorem due_at {l : List Flt} {t : Int} : ∀ {k : Nat}, k ≤ l.length → (∀ j f, j < k → l[j]? = some f → f.at_ ≤ t) → (k < l.length → ∃ f, l[k]? = some f ∧ t < f.at_) → dueN l t = k := by
 induction l with
 | nil => intro k hk _ _; simp at hk; subst hk; rfl
 | cons x l ih =>
  intro k hk h1 h2; cases k with
  | zero =>
   obtain ⟨f, hf, ht⟩ := h2 (by simp); simp at hf; subst hf; unfold dueN; rw [List.takeWhile_cons_of_neg (by simpa using ht)]; rfl
  | succ k =>
   have h0 := h1 0 x (by omega) rfl
   have h3 := ih (k := k) (by simpa using hk) (fun j f hj hf => h1 (j + 1) f (by omega) (by simpa using hf)) (fun hl => by
    obtain ⟨f, hf, ht⟩ := h2 (by simpa using hl); exact ⟨f, by simpa using hf, ht⟩)
   unfold dueN at h3 ⊢; rw [List.takeWhile_cons_of_pos (by simpa using h0), List.length_cons, h3]
section
variable {w : World} {base pp c : Nat} {A : Option Addr} {l : List Flt}
theorem left_any (h : PlanAt w base pp A c l) : Calls Tryz.prog 110 #[.pointer (some ⟨pp, 0, none⟩)] w fun e w' => e = .returned (.int .i64 (l.length : Int)) ∧ w = w' := by
 have hnn := pnonnil_eql
 have c0 : w.cell? ⟨pp, 0, none⟩ = some (.slice A l.length c) := by rw [zaf h.head]; rfl
 obtain ⟨M, hM⟩ : ∃ M, M = l.length := ⟨_, rfl⟩
 rw [← hM] at c0
 have HM := Lib.hid hM
 clear h hM
 go_enter Tryz.func110, Tryz.ntmps110
 go_wp2_with fail
 go_ret
 exact ⟨by rw [← HM.out]; rfl, rfl⟩
set_option maxRecDepth 100000 in
set_option maxHeartbeats 4000000 in
theorem due_any2 (h : PlanAt w base pp A c l) (t : Int) (hn : l.length ≤ 1000) (hbase : base ≤ w.heap.size) : Calls Tryz.prog 131 #[.pointer (some ⟨pp, 0, none⟩), .int .i64 t] w fun e w' =>
 ∃ v A' c', e = .returned v ∧ OwnRows w' w.heap.size 87 7 v (dueN l t) (flts (l.take (dueN l t))) ∧ PlanAt w' base pp A' c' (l.drop (dueN l t)) ∧ w.grownBy w' (some pp) ∧ (dueN l t < l.length → ∀ gb off, A = some ⟨gb, off, none⟩ → ∃ off', A' = some ⟨gb, off', none⟩) := by
 have hnn := pnonnil_eql
 have c0 : w.cell? ⟨pp, 0, none⟩ = some (.slice A l.length c) := by rw [zaf h.head]; rfl
 obtain ⟨M, hM⟩ : ∃ M, M = l.length := ⟨_, rfl⟩
 have HP := Lib.hid h
 have HR := Lib.hid (show Rds w w.heap.size A 7 M (flts l) by rw [hM]; exact h.rows)
 have HC := Lib.hid (show M ≤ c by rw [hM]; exact h.cap.1)
 rw [← hM] at c0 hn
 have HM := Lib.hid hM
 have HBase := Lib.hid hbase
 clear h hM hbase
 go_enter Tryz.func131, Tryz.ntmps131
 go_wp2_with fail
 go_loopw [5] (fun i wr => ∃ k : Nat, k ≤ M ∧ i = .int .i64 k ∧ wr = w ∧ Hid (∀ j f, j < k → l[j]? = some f → f.at_ ≤ t)) (fun i _ => M - (intOf i).toNat)
 case atStart => exact ⟨0, by omega, rfl, rfl, Lib.hid fun j f hj => by omega⟩
 case round =>
  obtain ⟨k, hk, rfl, rfl, hall⟩ := hrel; have fin : (k < M → ∃ f, l[k]? = some f ∧ t < f.at_) → dueN l t = k := fun h => due_at (by rw [← HM.out]; exact hk) hall.out (by rw [← HM.out]; exact h)
  have HFIN := Lib.hid fin; clear fin; obtain ⟨A1, hs1, hr1⟩ := cut_low (k := k) Tryz.underlying151 fltInfo HR.out hk HC.out; obtain ⟨A2, hs2, hr2, hA2⟩ := cut_high2 (k := k) Tryz.underlying151 fltInfo HR.out hk HC.out
  have HC1 := Lib.hid (show ∀ w' : World, Below wr.heap.size wr w' → Calls Tryz.prog 163 #[.slice A1 k c] w' fun e w'' => ∃ v, e = .returned v ∧ OwnRows w'' w'.heap.size 87 7 v k (flts (l.take k)) ∧ Below w'.heap.size w' w'' from fun w' hb => by
   have := cloneF_any A1 k c wr.heap.size (l.take k) w' (by rw [flts, List.map_take]; exact hr1.below hb (Nat.le_refl _)) hb.size (by omega); exact this)
  have HR2 := Lib.hid (And.intro hr2 hA2); clear hr1 hr2 hA2
  have tail : (k < M → ∃ f, l[k]? = some f ∧ t < f.at_) → ∀ w7 v7, OwnRows w7 wr.heap.size 87 7 v7 k (flts (l.take k)) → Below wr.heap.size wr w7 → (w7.cell? ⟨pp, 0, none⟩ = some (.slice A M c) ∧ w7.frozen? ⟨pp, 0, none⟩ = false) ∧
   (∃ v A' c', Ending.returned v7 = Ending.returned v ∧ OwnRows (w7.setCell ⟨pp, 0, none⟩ (.slice A2 (M - k) (c - k))) wr.heap.size 87 7 v (dueN l t) (flts (l.take (dueN l t))) ∧ PlanAt (w7.setCell ⟨pp, 0, none⟩ (.slice A2 (M - k) (c - k))) base pp A' c' (l.drop (dueN l t)) ∧ wr.grownBy (w7.setCell ⟨pp, 0, none⟩ (.slice A2 (M - k) (c - k))) (some pp) ∧ (dueN l t < l.length → ∀ gb off, A = some ⟨gb, off, none⟩ → ∃ off', A' = some ⟨gb, off', none⟩)) := by
   intro hex w7 v7 ho hb; have hhd := zad HP.out.head hb; rw [← HM.out] at hhd; have hU := zas (cs := [.slice A M c]) (i := 0) hhd (.slice A2 (M - k) (c - k)); have hplt : pp < wr.heap.size := zag HP.out.head; have hdl : (l.drop k).length = M - k := by rw [List.length_drop, HM.out]
   rw [HFIN.out hex]; have hop : ∀ g, v7.ownBlock = some g → g ≠ pp := fun g hg => by have := (own_lt ho g hg).1; omega
   refine ⟨⟨by rw [zaf hhd]; rfl, zar hhd 0⟩, v7, A2, c - k, rfl, ho.upd hU (fun e => hop pp e rfl), ⟨by rw [hU.at_, hdl]; rfl, HP.out.low, ?_, fun hp => ?_, ⟨by rw [hdl]; have := HC.out; omega, by have := HP.out.cap.2; omega⟩, fun f hf => HP.out.wf f (List.mem_of_mem_drop hf)⟩, ?_⟩
   · rw [hdl]
     have hr := HR2.out.1; refine ⟨by rw [flts, List.length_map, hdl], fun r hr' => flts_len r hr', fun hn0 => ?_⟩; obtain ⟨bb, oo, e, hbb, hc⟩ := hr.2.2 hn0; have hbl := hb.size; refine ⟨bb, oo, e, by rw [hU.size]; omega, fun i r j u h1 h2 => ?_⟩; rw [flts, List.map_drop] at h1; have h3 := hc i r j u h1 h2
     have hne : bb ≠ pp := by
      obtain ⟨gb, off, cs, fr, eA, hg, -⟩ := HP.out.at_ (by rw [← HM.out]; omega); rw [HR2.out.2 (by omega), eA, Option.map_some, Addr.add_mid] at e; cases e
      exact za3 hg HP.out.head (by simp [kindO] <;> decide)
     exact ((World.cell?_of_block (hU.block bb hne)).trans (hb.cell (p := ⟨bb, _, none⟩) hbb)).trans h3
   · rw [hdl] at hp
     obtain ⟨gb, off, cs, fr, eA, hg, hgb⟩ := HP.out.at_ (by rw [← HM.out]; omega); refine ⟨gb, off + k * 7, cs, fr, by rw [HR2.out.2 (by omega), eA, Option.map_some, Addr.add_mid], (hU.block gb (za3 hg HP.out.head (by simp [kindO] <;> decide))).trans (zad hg hb), hgb⟩
   · exact ⟨(below_grown hb (some pp)).andThen (upd_grown hU) (fun j hj => .inr hj), fun hkl gb off e => ⟨off + k * 7, by rw [HR2.out.2 (by rw [HM.out]; exact hkl), e, Option.map_some, Addr.add_mid]⟩⟩
  have HT := Lib.hid tail; clear tail; by_cases hlt : k < M
  · have hkl : k < l.length := by rw [← HM.out]; exact hlt
    obtain ⟨x, hKx⟩ : ∃ x, l[k]? = some x := ⟨_, List.getElem?_eq_getElem hkl⟩; obtain ⟨bb, oo, eA, hbb, hRr⟩ := za8 HR.out hlt (r := x.v) (flts_at hKx); subst eA; have hltI : (k : Int) < (M : Int) := by omega
    have cx : wr.cell? ⟨bb, oo + k * 7, none⟩ = some (.int .i64 x.at_) := hRr 0 _ rfl; have HKx := Lib.hid hKx; clear hKx hkl hRr; by_cases hle : x.at_ ≤ t
    · have HLE := Lib.hid hle
      go_wp2_with fail
      go_roundw
      case rel => exact ⟨k + 1, by omega, by go_num, by first | rfl | trivial, Lib.hid fun j f hj hf => by
       by_cases e : j = k
       · subst e; rw [HKx.out] at hf; cases hf; exact HLE.out
       · exact hall.out j f (by omega) hf⟩
      case measure => simp [intOf]; omega
    · have HEX := Lib.hid (show k < M → ∃ f, l[k]? = some f ∧ t < f.at_ from fun _ => ⟨x, HKx.out, by omega⟩)
      go_wp2_with (first | (refine wpList_slice_h _ _ rfl rfl rfl hs1 ?_))
      refine (HC1.out _ (Below.refl _ _)).mono ?_; rintro e w7 ⟨v7, rfl, ho7, hb7⟩; obtain ⟨⟨c7, f7⟩, hres⟩ := HT.out HEX.out w7 v7 ho7 hb7; have HRES := Lib.hid hres; clear hres ho7 hb7 cx c0; go_wp2_with (first | (refine wpList_slice_l _ _ rfl rfl rfl hs2 ?_))
      go_ret
      exact HRES.out
  · have HEX := Lib.hid (show k < M → ∃ f, l[k]? = some f ∧ t < f.at_ from fun h => absurd h hlt)
    have hltI : ¬ (k : Int) < (M : Int) := by omega
    go_wp2_with (first | (refine wpList_slice_h _ _ rfl rfl rfl hs1 ?_))
    refine (HC1.out _ (Below.refl _ _)).mono ?_; rintro e w7 ⟨v7, rfl, ho7, hb7⟩; obtain ⟨⟨c7, f7⟩, hres⟩ := HT.out HEX.out w7 v7 ho7 hb7; have HRES := Lib.hid hres; clear hres ho7 hb7 c0; go_wp2_with (first | (refine wpList_slice_l _ _ rfl rfl rfl hs2 ?_))
    go_ret
    exact HRES.out
theorem due_any (h : PlanAt w base pp A c l) (t : Int) (hn : l.length ≤ 1000) (hbase : base ≤ w.heap.size) : Calls Tryz.prog 131 #[.pointer (some ⟨pp, 0, none⟩), .int .i64 t] w fun e w' =>
 ∃ v A' c', e = .returned v ∧ OwnRows w' w.heap.size 87 7 v (dueN l t) (flts (l.take (dueN l t))) ∧ PlanAt w' base pp A' c' (l.drop (dueN l t)) ∧ w.grownBy w' (some pp) :=
 (due_any2 h t hn hbase).mono fun e w' ⟨v, A', c', h1, h2, h3, h4, _⟩ => ⟨v, A', c', h1, h2, h3, h4⟩
end
def runN (N : Nd) (fs : List Flt) : Nd := fs.foldl Nd.faultN N
theorem run_step {N : Nd} {fs : List Flt} {k : Nat} {f : Flt} (h : fs[k]? = some f) : runN N (fs.take (k + 1)) = (runN N (fs.take k)).faultN f := by
 have hk := (List.getElem?_eq_some_iff.1 h).1
 have hc := (List.getElem?_eq_some_iff.1 h).2
 rw [List.take_succ_eq_append_getElem hk, hc]
 simp [runN, List.foldl_append]
theorem dueN_le (l : List Flt) (t : Int) : dueN l t ≤ l.length := by unfold dueN; exact (List.takeWhile_sublist _).length_le
set_option maxRecDepth 100000 in
set_option maxHeartbeats 4000000 in
theorem run_any {w : World} {bp pp c base g m : Nat} {A : Option Addr} {l : List Flt} {N : Nd} (hp : PlanAt w bp pp A c l) (hN : NandIn w base g m N) (hm : m ≤ 90000) (hl : l.length ≤ 1000) (hbp : bp ≤ w.heap.size) {D : Nat} {w0 : World} (hb : Below D w0 w) (hD : D ≤ base ∧ D ≤ bp) (hs : D ≤ w0.heap.size) :
 Calls Tryz.prog 111 #[.pointer (some ⟨pp, 0, none⟩), .pointer (some ⟨g, 0, none⟩)] w fun e w' => e = .returned (.int .i64 (dueN l (N.ops : Int) : Nat)) ∧ NandIn w' base g (m + 1000) (runN N (l.take (dueN l (N.ops : Int)))) ∧ (∃ A' c', PlanAt w' bp pp A' c' (l.drop (dueN l (N.ops : Int)))) ∧ Below D w0 w' := by
 obtain ⟨k, hk⟩ : ∃ k, k = dueN l (N.ops : Int) := ⟨_, rfl⟩
 have hkl : k ≤ l.length := by rw [hk]; exact dueN_le _ _
 have hwf := hp.wf
 have HO := Lib.hid (ops_in hN)
 have HDu := Lib.hid (due_any hp (N.ops : Int) hl hbp)
 rw [← hk] at HDu ⊢
 have HP := Lib.hid hp
 have HN := Lib.hid hN
 have HB := Lib.hid hb
 have HKL := Lib.hid (And.intro hkl hl)
 have HW := Lib.hid hwf
 have HDD := Lib.hid (And.intro hD hs)
 have HM := Lib.hid hm
 clear hp hN hb hkl hl hwf hD hs hbp hm hk
 go_enter Tryz.func111, Tryz.ntmps111
 go_wp2_with fail
 refine HO.out.mono ?_
 rintro e w' ⟨rfl, rfl⟩
 go_wp2_with fail
 refine HDu.out.mono ?_
 rintro e w1 ⟨v, A1, c1, rfl, ho1, hp1, hg1⟩
 have HN1 := Lib.hid (HN.out.other hg1 HP.out.head rfl)
 have HB1 := Lib.hid (HB.out.grown hg1 (Nat.le_trans HDD.out.2 HB.out.size) (fun j hj => by cases hj; have := HP.out.low; have := HDD.out.1.2; omega))
 have HO1 := Lib.hid ho1
 have HP1 := Lib.hid hp1
 obtain ⟨Av, cv, rfl, -, -⟩ := ho1.slice
 obtain ⟨fs, hfs⟩ : ∃ fs, fs = l.take k := ⟨_, rfl⟩
 rw [← hfs] at HO1
 have hfl : fs.length = k := by rw [hfs, List.length_take]; have := HKL.out.1; omega
 have HFL := Lib.hid hfl
 have HFS := Lib.hid hfs
 have hk1000 : k ≤ 1000 := by have := HKL.out; omega
 obtain ⟨B1, hB1⟩ : ∃ B1, B1 = w.heap.size := ⟨_, rfl⟩
 rw [← hB1] at HO1
 clear ho1 hp1 hg1 hfs hfl HO HDu HP HN hB1
 go_wp2_with fail
 go_loopw [7, 14] (fun _ i wr => ∃ j : Nat, j ≤ k ∧ i = .int .i64 j ∧ NandIn wr base g (m + j) (runN N (fs.take j)) ∧ OwnRows wr B1 87 7 (.slice Av k cv) k (flts fs) ∧ PlanAt wr bp pp A1 c1 (l.drop k) ∧ Below D w0 wr) (fun _ i _ => k - (intOf i).toNat)
 case atStart => exact ⟨0, by omega, rfl, HN1.out, HO1.out, HP1.out, HB1.out⟩
 case round =>
  obtain ⟨j, hj, rfl, hn, ho, hp, hb⟩ := hrel; by_cases hlt : j < k
  · have hjl : j < fs.length := by rw [HFL.out]; exact hlt
    obtain ⟨x, hKx⟩ : ∃ x, fs[j]? = some x := ⟨_, List.getElem?_eq_getElem hjl⟩; obtain ⟨bb, oo, eA, hbb, hRr⟩ := za8 ho.rds hlt (r := x.v) (flts_at hKx); subst eA; have hltI : (j : Int) < (k : Int) := by omega
    have hwx : x.wf := HW.out x (by have := List.mem_of_getElem? hKx; rw [HFS.out] at this; exact List.mem_of_mem_take this); have HST := Lib.hid (run_step (N := N) hKx); have HNj := Lib.hid hn; have HOj := Lib.hid ho; have HPj := Lib.hid hp; have HBj := Lib.hid hb; have HWX := Lib.hid hwx; clear hn ho hp hb hwx hKx hjl; go_wp2_with (first | (refine wpList_load_mid rfl 87 (.tmp 16) rfl bb (oo + j * 7) rfl x.v _ hRr Tryz.underlying87 rfl fltInfo ?_) | (refine zai rfl 87 (.tmp 7) (.tmp 17) rfl wr.heap.size x.v rfl rfl 87 _ (zak wr _ _ rfl) fltInfo rfl (one_flt x) ?_; intro w5 hU5; have hr5 := zal hU5.at_; have hb5 := hU5.below ((Below.refl _ wr).alloc (Nat.le_refl _) _) (Nat.le_refl _); clear hU5) | (refine wpList_load_mid rfl 87 (.tmp 7) rfl wr.heap.size 0 rfl x.v _ hr5 Tryz.underlying87 rfl fltInfo ?_))
    refine (fault_in (HNj.out.below hb5) x HWX.out (by have := HM.out; omega)).mono ?_; rintro e w6 ⟨rfl, hn6, hf6⟩; have HN6 := Lib.hid hn6
    have HO6 : Hid (OwnRows w6 B1 87 7 (.slice (some ⟨bb, oo, none⟩) k cv) k (flts fs)) := Lib.hid (by
     have h1 := HOj.out.below hb5; exact ⟨own_same h1.1 fun b' hb' => by obtain ⟨cur, hc, -⟩ := za5 h1.1 hb'; exact (hf6.blk hc rfl).trans hc.symm, h1.2⟩)
    have HP6 := Lib.hid ((HPj.out.below hb5).fr hf6); have HB6 := Lib.hid (hf6.below (HBj.out.trans (hb5.mono (Nat.le_trans HDD.out.2 HBj.out.size))) HDD.out.1.1 HDD.out.2); clear hn6 hf6 hb5 hr5 hRr; go_wp2_with fail
    go_roundw
    case rel => exact ⟨j + 1, by omega, by go_num, by rw [HST.out]; exact HN6.out, HO6.out, HP6.out, HB6.out⟩
    case measure => simp [intOf]; omega
  · obtain rfl : j = k := by omega
    have HE := Lib.hid (show runN N (fs.take j) = runN N (l.take j) by rw [List.take_of_length_le (by rw [HFL.out]; exact Nat.le_refl _), HFS.out]); rw [HE.out] at hn; have HNj := Lib.hid (hn.mono (show m + j ≤ m + 1000 by omega)); have HPj := Lib.hid hp; have HBj := Lib.hid hb; clear hn ho hp hb; go_wp2_with fail
    go_ret
    exact ⟨rfl, HNj.out, ⟨A1, c1, HPj.out⟩, HBj.out⟩
end Go.Proofs.YtpbigfopmompfaaGreat.nand
