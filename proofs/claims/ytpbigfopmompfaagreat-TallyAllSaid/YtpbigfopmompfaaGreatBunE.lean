import Derived.Test.YtpbigfopmompfaaGreatSherdRun
import Derived.Test.YtpbigfopmompfaaGreatBunD
import Derived.Test.YtpbigfopmompfaaGreatMem
import Derived.Test.YtpbigfopmompfaaGreatBunP
import Derived.Test.YtpbigfopmompfaaGreatBunX
import Derived.Deep.RegionLaw
/- What a claim's proof leans on: Own, RefOver, Over, SherdPut, SherdGet, Blank. -/
namespace Go.Proofs.YtpbigfopmompfaaGreat
open Go.RowKit
theorem zbb (d : List Nat) (r l s k b o m : Int) : ∀ v ∈ shV d r l s k b o m, v.oneCell' = true := by
 intro v hv
 rcases List.mem_append.1 hv with h | h
 · exact za1 _ _ v h
 · simp at h
   rcases h with rfl | rfl | rfl | rfl | rfl | rfl | rfl <;> rfl
theorem za4 (d : List Nat) (hd : d.length = 16) (r l s k b o m : Int) : (Tryz.prog.info? 153).map (·.size) = some (shV d r l s k b o m).length := by rw [zba hd]; kernel_rfl
theorem built_zero : Tryz.prog.built 153 [] = some (shV zero16 0 0 0 0 0 0 0).toArray := by kernel_rfl
def ownV (d : List Nat) (r l s b o m : Int) : List Value := if maySh d r l s 1 b o m then shV d r l s 1 b o m else shV zero16 0 0 0 0 0 0 0
set_option maxRecDepth 100000 in
set_option maxHeartbeats 2000000 in
theorem own_sherd (b o m l s r : Int) (d : List Nat) (w : World) (hd : d.length = 16) (hb : ∀ x ∈ d, x < 256) :
 Calls Tryz.prog 113 #[.int .i64 b, .int .i64 o, .int .i64 m, .agg (enV l s r d).toArray] w fun e w' => e = .returned (.tuple #[.agg (ownV d r l s b o m).toArray, .bool (maySh d r l s 1 b o m)]) ∧ Below w.heap.size w w' := by
 have hB := heap_alloc_new w (.cells (enV l s r d).toArray 29)
 obtain ⟨c0, c1, c2, hR⟩ := en_cells hB
 have k0 := cell_alloc c0 zeroSh
 have k1 := cell_alloc c1 zeroSh
 have k2 := cell_alloc c2 zeroSh
 unfold zeroSh at k0 k1 k2
 have hV := za4 d hd r l s 1 b o m
 have hlen := Lib.hid (zba hd r l s 1 b o m)
 clear hB
 unfold ownV
 cases hM : maySh d r l s 1 b o m with
 | false =>
  have HM := Lib.hid hM; clear hM; go_enter Tryz.func113, Tryz.ntmps113
  go_wp2_with (first | (refine wpList_load_mid rfl 27 (.tmp 11) rfl w.heap.size 3 rfl _ _ (range_alloc hR _) Tryz.underlying27 rfl (by rw [zaj, hd]; kernel_rfl) ?_) | (refine zao rfl 153 _ rfl _ rfl _ (built_sherd hd r l s 1 b o m) ?_) | (refine zai rfl 153 (.tmp 10) (.tmp 22) rfl (w.heap.size + 1 + 1) (shV d r l s 1 b o m) rfl rfl 153 _ (zak _ _ _ (by simp)) hV (by rw [hlen.out]; rfl) (zbb _ _ _ _ _ _ _ _) ?_; intro w4 hU; have hS := hU.at_; have hZ := hU.old (heap_at2 _ _ _ _) (show w.heap.size + 1 ≠ w.heap.size + 1 + 1 by omega); have hb4 := hU.below (below3 _ _ _ _) (by omega); have hsz := hU.size) | (refine wpList_load_mid rfl 153 (.tmp 10) rfl (w.heap.size + 1 + 1) 0 rfl _ _ (zal hS) Tryz.underlying153 rfl hV ?_))
  refine (zbj d r l s 1 b o m _ hd hb).mono ?_; rw [HM.out]; rintro e w5 ⟨rfl, hb5⟩; have hS5 := zad hS hb5; have hZ5 := zad hZ hb5; have hbel := hb4.trans (hb5.mono hb4.size); clear hS hZ hU hb4 hb5 hsz k0 k1 k2 c0 c1 c2 hR; go_wp2_with (first | (refine zao rfl 153 _ rfl _ rfl _ built_zero ?_) | (refine zai rfl 153 (.tmp 8) (.tmp 26) rfl (w.heap.size + 1) (shV zero16 0 0 0 0 0 0 0) rfl rfl 153 _ hZ5 (za4 _ rfl _ _ _ _ _ _ _) rfl (zbb _ _ _ _ _ _ _ _) ?_; intro w6 hU6))
  refine bodyPost_ret (v := .tuple #[.agg (shV zero16 0 0 0 0 0 0 0).toArray, .bool false]) ?_ rfl ⟨rfl, hU6.below hbel (by omega)⟩; rw [zav rfl _ _ _ _ _ _ _ rfl hU6.at_ Tryz.underlying153 rfl (za4 _ rfl _ _ _ _ _ _ _)]; rfl
 | true =>
  have HM := Lib.hid hM; clear hM; go_enter Tryz.func113, Tryz.ntmps113
  go_wp2_with (first | (refine wpList_load_mid rfl 27 (.tmp 11) rfl w.heap.size 3 rfl _ _ (range_alloc hR _) Tryz.underlying27 rfl (by rw [zaj, hd]; kernel_rfl) ?_) | (refine zao rfl 153 _ rfl _ rfl _ (built_sherd hd r l s 1 b o m) ?_) | (refine zai rfl 153 (.tmp 10) (.tmp 22) rfl (w.heap.size + 1 + 1) (shV d r l s 1 b o m) rfl rfl 153 _ (zak _ _ _ (by simp)) hV (by rw [hlen.out]; rfl) (zbb _ _ _ _ _ _ _ _) ?_; intro w4 hU; have hS := hU.at_; have hZ := hU.old (heap_at2 _ _ _ _) (show w.heap.size + 1 ≠ w.heap.size + 1 + 1 by omega); have hb4 := hU.below (below3 _ _ _ _) (by omega); have hsz := hU.size) | (refine wpList_load_mid rfl 153 (.tmp 10) rfl (w.heap.size + 1 + 1) 0 rfl _ _ (zal hS) Tryz.underlying153 rfl hV ?_))
  refine (zbj d r l s 1 b o m _ hd hb).mono ?_; rw [HM.out]; rintro e w5 ⟨rfl, hb5⟩; have hS5 := zad hS hb5; have hZ5 := zad hZ hb5; have hbel := hb4.trans (hb5.mono hb4.size); clear hS hZ hU hb4 hb5 hsz k0 k1 k2 c0 c1 c2 hR; go_wp2_with (first | (refine wpList_load_mid rfl 153 (.tmp 10) rfl (w.heap.size + 1 + 1) 0 rfl _ _ (zal hS5) Tryz.underlying153 rfl hV ?_) | (refine zai rfl 153 (.tmp 8) (.tmp 27) rfl (w.heap.size + 1) (shV d r l s 1 b o m) rfl rfl 153 _ hZ5 hV (by rw [hlen.out]; rfl) (zbb _ _ _ _ _ _ _ _) ?_; intro w6 hU6))
  refine bodyPost_ret (v := .tuple #[.agg (shV d r l s 1 b o m).toArray, .bool true]) ?_ rfl ⟨rfl, hU6.below hbel (by omega)⟩; rw [zav rfl _ _ _ _ _ _ _ rfl hU6.at_ Tryz.underlying153 rfl hV]; rfl
end Go.Proofs.YtpbigfopmompfaaGreat
namespace Go.Proofs.YtpbigfopmompfaaGreat
open Go.RowKit
theorem u8_xor (a b : Nat) (ha : a < 256) (hb : b < 256) : bits .xor .u8 (a : Int) (b : Int) = ((a ^^^ b : Nat) : Int) := by
 have hx : a ^^^ b < 2 ^ 8 := Nat.xor_lt_two_pow (by omega) (by omega)
 have e : ∀ x : Nat, x < 256 → (BitVec.ofInt 8 (x : Int)).toNat = x := fun x h => by rw [BitVec.ofInt_natCast, BitVec.toNat_ofNat]; exact Nat.mod_eq_of_lt (by omega)
 show ((BitVec.ofInt 8 (a : Int) ^^^ BitVec.ofInt 8 (b : Int)).toNat : Int) % _ = _
 rw [BitVec.toNat_xor, e a ha, e b hb]
 have : ((2 : Int) ^ IntKind.u8.bits) = 256 := by decide
 rw [this]; omega
def partO (d e : List Nat) (k : Nat) : List Nat := over (d.take k) (e.take k) ++ d.drop k
theorem partO_zero (d e : List Nat) : partO d e 0 = d := by simp [partO, over]
theorem partO_all {d e : List Nat} (hd : d.length = 16) (he : e.length = 16) : partO d e 16 = over d e := by
 rw [partO, List.take_of_length_le (by omega), List.take_of_length_le (by omega), List.drop_eq_nil_of_le (by omega), List.append_nil]
theorem partO_len {d e : List Nat} (h : d.length = e.length) {k : Nat} (hk : k ≤ d.length) : (over (d.take k) (e.take k)).length = k := by simp [over]; omega
theorem partO_get {d e : List Nat} (h : d.length = e.length) {k : Nat} (hk : k < d.length) : (partO d e k)[k]? = some d[k] := by
 rw [partO, List.getElem?_append_right (by rw [partO_len h (by omega)]; omega), partO_len h (by omega), Nat.sub_self, List.getElem?_drop, Nat.add_zero, List.getElem?_eq_getElem hk]
theorem partO_set {d e : List Nat} (h : d.length = e.length) {k : Nat} (hk : k < d.length) : (partO d e k).set k (d[k] ^^^ e[k]) = partO d e (k + 1) := by
 have hl := partO_len h (Nat.le_of_lt hk)
 rw [partO, partO, List.set_append_right _ _ (by rw [hl]; omega), hl, Nat.sub_self, List.drop_eq_getElem_cons hk, List.set_cons_zero,
  List.take_succ_eq_append_getElem hk, List.take_succ_eq_append_getElem (by omega : k < e.length)]
 unfold over
 rw [List.zipWith_append (by simp; omega)]
 simp
theorem shV_len0 : (shV zero16 0 0 0 0 0 0 0).length = 23 := rfl
end Go.Proofs.YtpbigfopmompfaaGreat
namespace Go.Proofs.YtpbigfopmompfaaGreat
open Go.RowKit
theorem run_index_flat {P : Program} (w : World) {t e : TypeId} {n c : Nat} {xs : List Value} {d : Nat} {ks : List Kd} {i : TypeInfo} (hu : P.underlying t = some (.array n e)) (hf : flat P d e = some ks) (hi : P.info? e = some i) (hc : P.cellsOf e = ks.length) (hk : ks.length = c)
 (j : Nat) (hj : j < n) (hl : xs.length = n * c) : (Instr.index t (.agg xs.toArray) (.int .i64 (j : Int))).run P w = .ok (wrapV P e ((xs.drop (j * c)).take c)) w := by
 subst hk
 have hs := run_sizeOf (P := P) (w := w) hi
 rw [hc] at hs
 have him : j * ks.length + ks.length ≤ n * ks.length := by
  have := Nat.mul_le_mul_right ks.length (show j + 1 ≤ n by omega); rw [Nat.succ_mul] at this; exact this
 have hp := run_part w hf hi hc xs (j * ks.length) (by omega)
 have h1 : (0 : Int) ≤ (j : Int) ∧ (j : Int) < (n : Int) := by omega
 simp only [Instr.index, asIntOf, Sem.run_bind, Sem.run_pure, Result.andThen_ok, run_underlying hu, if_pos h1, hs, Int.toNat_natCast, hp]
theorem run_index_data (w : World) {d : List Nat} (h : d.length = 16) (j : Nat) (hj : j < 16) (x : Nat) (hx : d[j]? = some x) : (Instr.index 27 (.agg (nats .u8 d).toArray) (.int .i64 (j : Int))).run Tryz.prog w = .ok (.int .u8 (x : Int)) w := by
 obtain ⟨i, hi⟩ := eqOk_info (show eqOk Tryz.prog 1 5 = true by kernel_rfl)
 rw [run_index_flat (c := 1) w Tryz.underlying27 (show flat Tryz.prog 1 5 = some [.int .u8] by kernel_rfl) hi (by kernel_rfl) rfl j hj (by rw [zaj]; omega)]
 have ha : aggB Tryz.prog 5 = false := by kernel_rfl
 simp only [wrapV, ha, Bool.false_eq_true, if_false, Nat.mul_one]
 have e : ((nats .u8 d).drop j).take 1 = [.int .u8 (x : Int)] := by
  have hl : j < (nats .u8 d).length := by rw [zaj]; omega
  rw [List.drop_eq_getElem_cons hl]; obtain ⟨h1, rfl⟩ := List.getElem?_eq_some_iff.1 hx; simp [nats]
 rw [e]; rfl
theorem u64_xor (a b : Nat) (ha : a < 18446744073709551616) (hb : b < 18446744073709551616) : bits .xor .u64 (a : Int) (b : Int) = ((a ^^^ b : Nat) : Int) := by
 have hx : a ^^^ b < 2 ^ 64 := Nat.xor_lt_two_pow (by omega) (by omega)
 have e : ∀ x : Nat, x < 18446744073709551616 → (BitVec.ofInt 64 (x : Int)).toNat = x := fun x h => by rw [BitVec.ofInt_natCast, BitVec.toNat_ofNat]; exact Nat.mod_eq_of_lt (by omega)
 show IntKind.u64.wrap ((BitVec.ofInt 64 (a : Int) ^^^ BitVec.ofInt 64 (b : Int)).toNat : Int) = _
 rw [BitVec.toNat_xor, e a ha, e b hb, u64_wrap_nat _ (by omega)]
theorem za8 {w : World} {B C n : Nat} {A : Option Addr} {rows : List (List Value)} (h : Rds w B A C n rows) {k : Nat} (hk : k < n) {r : List Value} (hr : rows[k]? = some r) : ∃ b o, A = some ⟨b, o, none⟩ ∧ b < B ∧ w.rangeAt b (o + k * C) r := by
 obtain ⟨b, o, e, hb, hc⟩ := h.2.2 (by omega)
 refine ⟨b, o, e, hb, fun j v hv => ?_⟩
 rw [Nat.add_assoc]
 exact hc k r j v hr hv
def Sh.v (x : Sh) : List Value := shV x.d x.r x.l x.s x.k x.b x.o x.m
def Sh.ok (x : Sh) : Prop := x.d.length = 16 ∧ ∀ y ∈ x.d, y < 256
def shs (l : List Sh) : List (List Value) := l.map Sh.v
set_option maxRecDepth 100000 in
set_option maxHeartbeats 4000000 in
theorem over_any (l : List Sh) (A : Option Addr) (n c B : Nat) (w : World) (hr : Rds w B A 23 n (shs l)) (hB : B ≤ w.heap.size) (hok : ∀ x ∈ l, x.ok) (hn : n ≤ 1000) :
 Calls Tryz.prog 132 #[.slice A n c] w fun e w' => e = .returned (.tuple #[.agg (nats .u8 (overD l)).toArray, .int .u64 (overM l : Int)]) ∧ Below w.heap.size w w' := by
 have hl : l.length = n := by have := hr.1; rwa [shs, List.length_map] at this
 have HL := Lib.hid hl
 clear hl
 have hn2 : (n : Int) ≤ 1000 := by omega
 go_enter Tryz.func132, Tryz.ntmps132
 go_wp2
 go_loopw [5, 12] (fun m i wr => ∃ k : Nat, k ≤ n ∧ i = .int .i64 k ∧ m = .int .u64 (overM (l.take k) : Int) ∧ wr.heap[w.heap.size + 1]? = some (.cells (nats .u8 (overD (l.take k))).toArray 27 (0, 0)) ∧ wr.heap[w.heap.size]? = some (.cells (nats .u8 zero16).toArray 27 (0, 0)) ∧ Below w.heap.size w wr) (fun _ i _ => n - (intOf i).toNat)
 case atStart => exact ⟨0, by omega, rfl, rfl, zak _ _ _ (by simp), zbi _ _ _, below2 _ _ _⟩
 case round =>
  obtain ⟨k, hk, rfl, rfl, h1, h0, hbel⟩ := hrel; by_cases hlt : k < n
  · have hkl : k < l.length := by rw [HL.out]; exact hlt
    obtain ⟨x, hx⟩ : ∃ x, l[k]? = some x := ⟨_, List.getElem?_eq_getElem hkl⟩; have hr' := hr.same (w' := wr) fun p hp => hbel.cell (by omega)
    obtain ⟨b, o, rfl, hb, hR⟩ := za8 hr' hlt (r := x.v) (by rw [shs, List.getElem?_map, hx]; rfl); have hxk := hok x (List.mem_of_getElem? hx); have hV := za4 x.d hxk.1 x.r x.l x.s x.k x.b x.o x.m; have HT := Lib.hid (show l.take (k + 1) = l.take k ++ [x] by rw [List.take_succ_eq_append_getElem hkl]; rw [List.getElem?_eq_getElem hkl] at hx; rw [Option.some.inj hx]); have hlt2 : (k : Int) < (n : Int) := by omega
    have hne1 : w.heap.size + 1 ≠ wr.heap.size := by have := zag h1; omega
    have hne0 : w.heap.size ≠ wr.heap.size := by have := zag h0; omega
    have hsz := hbel.size; obtain ⟨wo, hwo⟩ : ∃ wo : World, wo = wr := ⟨_, rfl⟩; subst hwo; go_wp2_with (first | (refine wpList_load_mid rfl 153 (.tmp 14) rfl b (o + k * 23) rfl _ _ hR Tryz.underlying153 rfl hV ?_) | (refine zai rfl 153 (.tmp 7) (.tmp 15) rfl wo.heap.size x.v rfl rfl 153 _ (zak wo _ _ rfl) hV (by rw [Sh.v, zba hxk.1]; rfl) (zbb _ _ _ _ _ _ _ _) ?_; intro w4 hU; have hS := hU.at_; have h14 := hU.old (zam h1 _) hne1; have h04 := hU.old (zam h0 _) hne0; have hb4 := hU.below (hbel.alloc hsz _) hsz) | (refine wpList_load_mid rfl 27 (.tmp 16) rfl wo.heap.size 0 rfl _ _ (range_data hS) Tryz.underlying27 rfl (by rw [zaj, hxk.1]; kernel_rfl) ?_))
    clear hU hR hr hr' h1 h0 hbel; have HS := Lib.hid hS; clear hS; have hD := zb2 (l := l.take k) fun y hy => (hok y (List.mem_of_mem_take hy)).1
    have hDb := overD_lt (l := l.take k) (fun y hy => (hok y (List.mem_of_mem_take hy)).1) (fun y hy => (hok y (List.mem_of_mem_take hy)).2); have HV := Lib.hid (show overD (l.take (k + 1)) = over (overD (l.take k)) x.d by rw [HT.out, overD_snoc]); have HM := Lib.hid (show overM (l.take (k + 1)) = overM (l.take k) ^^^ metaN x.r x.l x.s by rw [HT.out, overM_snoc]); have HX := Lib.hid (u64_xor (overM (l.take k)) (metaN x.r x.l x.s) (overM_lt _) (metaN_lt _ _ _)); generalize overD (l.take k) = D at *; generalize overM (l.take k) = M at *; have hDe := Lib.hid (show D.length = x.d.length by rw [hD, hxk.1]); have HD := Lib.hid hD; have HXk := Lib.hid hxk; clear hD hxk hx
    go_loopw [18] (fun i wq => ∃ j : Nat, j ≤ 16 ∧ i = .int .i64 j ∧ wq.heap[w.heap.size + 1]? = some (.cells (nats .u8 (partO D x.d j)).toArray 27 (0, 0)) ∧ wq.heap[w.heap.size]? = some (.cells (nats .u8 zero16).toArray 27 (0, 0)) ∧
     wq.heap[wo.heap.size]? = some (.cells x.v.toArray 153 (0, 0)) ∧ Below w.heap.size w wq) (fun i _ => 16 - (intOf i).toNat)
    case atStart => exact ⟨0, by omega, rfl, by rw [partO_zero]; exact h14, h04, HS.out, hb4⟩
    case round =>
     clear h14 h04 HS hb4; obtain ⟨j, hj, rfl, h1, h0, hS, hbel⟩ := hrel; by_cases hlj : j < 16
     · have hjD : j < D.length := by rw [HD.out]; exact hlj
       have hjx : j < x.d.length := by rw [HXk.out.1]; exact hlj
       have hix := fun w => run_index_data w HXk.out.1 j hlj x.d[j] (List.getElem?_eq_getElem hjx)
       have c1 : wr.cell? ⟨w.heap.size + 1, j, none⟩ = some (.int .u8 (D[j] : Nat)) := by rw [zaf h1, List.getElem?_toArray, nats, List.getElem?_map, partO_get hDe.out hjD]; rfl
       have f1 := zar h1 j; have HU := Lib.hid (u8_xor D[j] x.d[j] (hDb _ (List.getElem_mem hjD)) (HXk.out.2 _ (List.getElem_mem hjx))); have HP := Lib.hid (partO_set hDe.out hjD); have H0 := Lib.hid h0; have H1 := Lib.hid h1; have H2 := Lib.hid hS; clear h0 h1 hS hDb; generalize D[j] = p at *; generalize x.d[j] = q at *; have b0 : (0 : Int) ≤ (j : Int) := by omega
       have b1 : (j : Int) < 16 := by omega
       go_wp2
       go_roundw
       case rel =>
        have hU := zas (i := j) H1.out (.int .u8 (bits .xor .u8 (p : Int) (q : Int))); refine ⟨j + 1, by omega, by go_num, ?_, hU.old H0.out (by omega), hU.old H2.out (by omega), hU.below hbel (by omega)⟩; have h := hU.at_; have he : (nats .u8 (partO D x.d j)).set j (.int .u8 (bits .xor .u8 (p : Int) (q : Int))) = nats .u8 (partO D x.d (j + 1)) := by rw [HU.out, ← HP.out]; simp only [nats, List.map_set]
        rw [he] at h; exact h
       case measure => simp [intOf]; omega
     · obtain rfl : j = 16 := by omega
       rw [partO_all HD.out HXk.out.1, ← HV.out] at h1; obtain ⟨c16, c17, c18, -⟩ := za6 HXk.out.1 hS; have H0 := Lib.hid h0; have H1 := Lib.hid h1; clear h0 h1 hS hDb; go_wp2_with fail
       refine (meta_any _ _ _ _).mono ?_; rintro e w' ⟨rfl, rfl⟩; go_wp2
       go_roundw
       case rel => exact ⟨k + 1, by omega, by go_num, by rw [HM.out, HX.out], H1.out, H0.out, hbel⟩
       case measure => simp [intOf]; omega
  · obtain rfl : k = n := by omega
    rw [List.take_of_length_le (by rw [HL.out]; exact Nat.le_refl _)] at h1 ⊢; have hD := zb2 (l := l) fun y hy => (hok y hy).1
    have hV : (Tryz.prog.info? 27).map (·.size) = some (nats .u8 (overD l)).length := by rw [zaj, hD]; kernel_rfl
    have hl16 := Lib.hid (show (nats .u8 (overD l)).length = 16 by rw [zaj, hD]); clear hD; go_wp2_with (first | (refine wpList_load_mid rfl 27 (.tmp 4) rfl (w.heap.size + 1) 0 rfl _ _ (zal h1) Tryz.underlying27 rfl hV ?_) | (refine zai rfl 27 (.tmp 2) (.tmp 39) rfl w.heap.size (nats .u8 (overD l)) rfl rfl 27 _ h0 hV (by rw [hl16.out]; rfl) (za1 _ _) ?_; intro w6 hU6))
    refine bodyPost_ret (v := .tuple #[.agg (nats .u8 (overD l)).toArray, .int .u64 (overM l : Int)]) ?_ rfl ⟨rfl, hU6.below hbel (by omega)⟩; rw [zav rfl _ _ _ _ _ _ _ rfl hU6.at_ Tryz.underlying27 rfl hV]; rfl
end Go.Proofs.YtpbigfopmompfaaGreat
namespace Go.Proofs.YtpbigfopmompfaaGreat
open Go.RowKit
def zero32 : List Nat := List.replicate 32 0
theorem zbe {P : List Nat} (h : P.length = 32) : (Tryz.prog.info? 90).map (·.size) = some (nats .u8 P).length := by rw [zaj, h]; kernel_rfl
theorem u8Size : (Tryz.prog.info? 5).map (·.size) = some 1 := by kernel_rfl
theorem IsOut.below {w w' : World} {B g : Nat} {r : Option Nat} {l : List Bool} (h : IsOut w B g r l) (hb : Below w.heap.size w w') : IsOut w' B g r l :=
 h.keep (Keep.of_new (S := fun _ => False) hb) id fun _ _ => id
theorem IsOut.upd {w w' : World} {B g : Nat} {r : Option Nat} {l : List Bool} (h : IsOut w B g r l) {G : Nat} {o : Obj} (hU : Upd G o w w') (hG : G < B) : IsOut w' B g r l :=
 h.keep (hU.keep (S := fun k => k = G) rfl) (by have := h.base; omega) fun k hk e => by have := h.owner k hk; omega
theorem put_below (G g : Nat) (r : Option Nat) (l : List Bool) (u V : Int) (w : World) (ho : IsOut w G g r l) (h0 : 0 ≤ u) (h1 : 1 ≤ V) (h2 : V ≤ 64) (hu : u.toNat < 2 ^ V.toNat) (hn : l.length + V.toNat ≤ 4096) (hB : G ≤ w.heap.size) :
 Calls Tryz.prog 133 #[.pointer (some ⟨g, 0, none⟩), .int .u64 u, .int .i64 V] w fun e w' => e = .returned (.bool true) ∧ ∃ r', IsOut w' G g r' (l ++ bitsL u.toNat V.toNat) ∧ Below G w w' := by
 obtain ⟨U, rfl⟩ := Int.eq_ofNat_of_zero_le h0
 obtain ⟨K, rfl⟩ := Int.eq_ofNat_of_zero_le (show 0 ≤ V by omega)
 simp only [Int.toNat_natCast] at *
 refine (put_true G g r l U K w ho (by omega) (by omega) hu hn hB).mono ?_
 rintro e w' ⟨rfl, r', h3, h4, h5⟩
 refine ⟨rfl, r', h3, h5.below hB ?_⟩
 rintro i (rfl | hi)
 · exact ho.base
 · exact ho.owner i hi.symm
theorem may_bd {d : List Nat} {r l s k b o m : Int} (h : maySh d r l s k b o m = true) : 0 ≤ r ∧ r < 256 ∧ 0 ≤ l ∧ l < 65536 ∧ 0 ≤ s ∧ s < 1099511627776 ∧ 1 ≤ k ∧ k ≤ 2 ∧ 0 ≤ b ∧ b < 16 ∧ 0 ≤ o ∧ o < 8 ∧ 0 ≤ m ∧ m < 256 := by
 unfold maySh placeB numbersB at h
 simp only [Bool.and_eq_true, Bool.or_eq_true, inB_iff, decide_eq_true_eq, beq_iff_eq] at h
 have hm := set_of_count (m := m) (by omega)
 omega
def fldsN (b o m k : Int) (j : Nat) : List Bool := match j with
 | 0 => []
 | 1 => bitsL b.toNat 8
 | 2 => bitsL b.toNat 8 ++ bitsL o.toNat 8
 | 3 => bitsL b.toNat 8 ++ (bitsL o.toNat 8 ++ bitsL m.toNat 8)
 | _ => bitsL b.toNat 8 ++ (bitsL o.toNat 8 ++ (bitsL m.toNat 8 ++ bitsL k.toNat 8))
theorem Upd.undrew {g : Nat} {o : Obj} {w w' : World} (h : Upd g o w.drew w') : Upd g o w w' := ⟨h.os, h.tape, h.output, h.size, h.at_, h.block⟩
theorem below_undrew {B : Nat} {w w' : World} (h : Below B w.drew w') : Below B w w' := ⟨h.os, h.tape, h.output, h.size, h.block⟩
theorem splice_a {d : List Nat} (hd : d.length = 16) : splice (nats .u8 zero32) 0 (nats .u8 d) = nats .u8 (d ++ zero16) := by
 unfold splice
 rw [List.take_zero, List.nil_append, zaj, hd]
 simp [nats, zero32, zero16]
theorem splice_b {d x y z : List Nat} (hd : d.length = 16) (hx : x.length = 12) (hy : y.length = 12) : splice (nats .u8 (d ++ (y ++ z))) 16 (nats .u8 x) = nats .u8 (d ++ (x ++ z)) := by
 unfold splice
 rw [zaj, hx]
 have e1 : (nats .u8 (d ++ (y ++ z))).take 16 = nats .u8 d := by
  simp only [nats, List.map_append]; rw [List.take_append_of_le_length (by simp; omega), List.take_of_length_le (by simp; omega)]
 have e2 : (nats .u8 (d ++ (y ++ z))).drop (16 + 12) = nats .u8 z := by
  rw [show nats .u8 (d ++ (y ++ z)) = nats .u8 (d ++ y) ++ nats .u8 z by simp [nats]]; have hl : (nats .u8 (d ++ y)).length = 16 + 12 := by rw [zaj, List.length_append, hd, hy]
  rw [← hl, List.drop_left]
 rw [e1, e2]
 simp [nats]
theorem splice_c {d x y : List Nat} (hd : d.length = 16) (hx : x.length = 16) (hy : y.length = 16) : splice (nats .u8 (d ++ y)) 16 (nats .u8 x) = nats .u8 (d ++ x) := by
 unfold splice
 rw [zaj, hx]
 have e1 : (nats .u8 (d ++ y)).take 16 = nats .u8 d := by
  simp only [nats, List.map_append]; rw [List.take_append_of_le_length (by simp; omega), List.take_of_length_le (by simp; omega)]
 have e2 : (nats .u8 (d ++ y)).drop (16 + 16) = [] := List.drop_eq_nil_of_le (by rw [zaj, List.length_append]; omega)
 rw [e1, e2]
 simp [nats]
theorem range_own {w : World} {base : Nat} {e : TypeId} {g c n : Nat} {xs : List Value} (h : w.ownsRow base e 1 (.slice (some ⟨g, 0, none⟩) n c) n xs) : w.rangeAt g 0 xs := by
 intro j v hv
 have := h.cells (g := g) rfl j v hv
 rwa [Addr.add_mid] at this
theorem rd_head {w : World} {g : Nat} {d H z : List Nat} {t : TypeId} {fr : Nat × Nat} (h : w.heap[g]? = some (.cells (nats .u8 (d ++ (H ++ z))).toArray t fr)) (hd : d.length = 16) (hh : H.length = 12) : Rd w w.heap.size (some ⟨g, 0, none⟩) 28 (nats .u8 (d ++ H)) :=
 rd_of_range (C := w.heap.size) (zbo h [] (nats .u8 (d ++ H)) (nats .u8 z) (by simp [nats]) 0 rfl) (show _ = 28 by rw [zaj, List.length_append, hd, hh]) (zag h)
theorem emptyOut (w : World) (B : Nat) (hB : B ≤ w.heap.size) : IsOut (w.alloc (.cells #[.slice none 0 0, .int .i64 0] 185)) B w.heap.size none [] :=
 ⟨hB, .slice none 0 0, rfl, heap_alloc_new _ _, World.ownsRow_nil _ _ _ _⟩
set_option maxRecDepth 100000 in
set_option maxHeartbeats 4000000 in
theorem put_no (d : List Nat) (r l s k b o m : Int) (w : World) (hd : d.length = 16) (hb : ∀ x ∈ d, x < 256) (hM : maySh d r l s k b o m = false) :
 Calls Tryz.prog 115 #[.agg (shV d r l s k b o m).toArray] w fun e w' => e = .returned (.tuple #[.agg (nats .u8 zero32).toArray, .bool false]) ∧ Below w.heap.size w w' := by
 have hV := za4 d hd r l s k b o m
 have HM := Lib.hid hM
 clear hM
 go_enter Tryz.func115, Tryz.ntmps115
 go_wp2_with (first | (refine wpList_load_mid rfl 153 (.tmp 1) rfl w.heap.size 0 rfl _ _ (zal (heap_at2' _ _ _ _)) Tryz.underlying153 rfl hV ?_))
 refine (zbj d r l s k b o m _ hd hb).mono ?_
 rw [HM.out]; rintro e w5 ⟨rfl, hb5⟩
 have h1 : w5.heap[w.heap.size + 1]? = some (.cells (nats .u8 zero32).toArray 90 (0, 0)) := zad (heap_at2 _ _ _ _) hb5
 have h2 : w5.heap[w.heap.size + 1 + 1]? = some (.cells (nats .u8 zero32).toArray 90 (0, 0)) := zad (zak _ _ _ (by simp)) hb5
 have hbel := (below3 _ _ _ _).trans (hb5.mono (below3 _ _ _ _).size)
 clear hb5
 go_wp2_with (first | (refine wpList_load_mid rfl 90 (.tmp 4) rfl (w.heap.size + 1 + 1) 0 rfl _ _ (zal h2) Tryz.underlying90 rfl (zbe rfl) ?_) | (refine zai rfl 90 (.tmp 2) (.tmp 11) rfl (w.heap.size + 1) (nats .u8 zero32) rfl rfl 90 _ h1 (zbe rfl) rfl (za1 _ _) ?_; intro w6 hU6))
 refine bodyPost_ret (v := .tuple #[.agg (nats .u8 zero32).toArray, .bool false]) ?_ rfl ⟨rfl, hU6.below hbel (by omega)⟩
 rw [zav rfl _ _ _ _ _ _ _ rfl hU6.at_ Tryz.underlying90 rfl (zbe rfl)]; rfl
set_option maxRecDepth 100000 in
set_option maxHeartbeats 4000000 in
theorem put_yes (d : List Nat) (r l s k b o m : Int) (w : World) (hd : d.length = 16) (hb : ∀ x ∈ d, x < 256) (hM : maySh d r l s k b o m = true) :
 Calls Tryz.prog 115 #[.agg (shV d r l s k b o m).toArray] w fun e w' => e = .returned (.tuple #[.agg (nats .u8 (pageN d r l s k b o m)).toArray, .bool true]) ∧ Below w.heap.size w w' := by
 have hV := za4 d hd r l s k b o m
 have HM := Lib.hid hM
 obtain ⟨r0, r1, l0, l1, s0, s1, k0, k1, b0, b1, o0, o1, m0, m1⟩ := may_bd hM
 clear hM
 go_enter Tryz.func115, Tryz.ntmps115
 go_wp2_with (first | (refine wpList_load_mid rfl 153 (.tmp 1) rfl w.heap.size 0 rfl _ _ (zal (heap_at2' _ _ _ _)) Tryz.underlying153 rfl hV ?_))
 refine (zbj d r l s k b o m _ hd hb).mono ?_
 rw [HM.out]; rintro e w5 ⟨rfl, hb5⟩
 have h0 : w5.heap[w.heap.size]? = some (.cells (shV d r l s k b o m).toArray 153 (0, 0)) := zad (heap_at2' _ _ _ _) hb5
 have h1 : w5.heap[w.heap.size + 1]? = some (.cells (nats .u8 zero32).toArray 90 (0, 0)) := zad (heap_at2 _ _ _ _) hb5
 have h2 : w5.heap[w.heap.size + 1 + 1]? = some (.cells (nats .u8 zero32).toArray 90 (0, 0)) := zad (zak _ _ _ (by simp)) hb5
 have hbel := (below3 _ _ _ _).trans (hb5.mono (below3 _ _ _ _).size)
 clear hb5
 go_upto_region 5 with fail
 have ho := emptyOut w5 w5.heap.size (Nat.le_refl _)
 have h0 := zam h0 (.cells #[.slice none 0 0, .int .i64 0] 185)
 have h1 := zam h1 (.cells #[.slice none 0 0, .int .i64 0] 185)
 have g2 := zag h2
 have h2 := zam h2 (.cells #[.slice none 0 0, .int .i64 0] 185)
 have hbel := hbel.alloc hbel.size (.cells #[.slice none 0 0, .int .i64 0] 185)
 have hsz : w5.heap.size ≤ (w5.alloc (.cells #[.slice none 0 0, .int .i64 0] 185)).heap.size := by simp
 generalize hw6 : w5.alloc (.cells #[.slice none 0 0, .int .i64 0] 185) = w6 at *
 clear hw6
 generalize w5.heap.size = G at *
 obtain ⟨c16, c17, c18, c19, c20, c21, c22⟩ := za6 hd h0
 go_wp2_with fail
 refine (meta_any _ _ _ _).mono ?_
 rintro e w' ⟨rfl, rfl⟩
 go_wp2_with fail
 have hml := metaN_lt r l s
 refine (put_below G G none [] _ _ _ ho (by omega) (by omega) (by omega) (by simpa using hml) (by simp) hsz).mono ?_
 rintro e w7 ⟨rfl, r7, ho7, hb7⟩
 clear c16 c17 c18 c19 c20 c21 c22 ho
 have hx : ([] : List Bool) ++ bitsL ((metaN r l s : Int)).toNat ((64 : Int)).toNat = bitsL (metaN r l s) 64 ++ fldsN b o m k 0 := by simp [fldsN]
 rw [hx] at ho7
 clear hx
 have h07 := (hb7.block _ (by omega)).trans h0
 have h17 := (hb7.block _ (by omega)).trans h1
 have h27 := (hb7.block _ g2).trans h2
 have hbel7 := hbel.trans (hb7.mono (by omega))
 have hsz7 := Nat.le_trans hsz hb7.size
 clear h0 h1 h2 hbel hb7 hsz
 clear h0 h1 h2 hbel
 obtain ⟨c16, c17, c18, c19, c20, c21, c22⟩ := za6 hd h07
 have H0 := Lib.hid h07
 have H1 := Lib.hid h17
 have H2 := Lib.hid h27
 clear h07 h17 h27
 go_wp2_with fail
 clear c16 c17 c18 c19 c20 c21 c22
 go_loopw [32] (fun i wr => ∃ (j : Nat) (r' : Option Nat), j ≤ 4 ∧ i = .int .i64 j ∧ IsOut wr G G r' (bitsL (metaN r l s) 64 ++ fldsN b o m k j) ∧ wr.heap[w.heap.size]? = some (.cells (shV d r l s k b o m).toArray 153 (0, 0)) ∧
  wr.heap[w.heap.size + 1]? = some (.cells (nats .u8 zero32).toArray 90 (0, 0)) ∧ wr.heap[w.heap.size + 1 + 1]? = some (.cells (nats .u8 zero32).toArray 90 (0, 0)) ∧ Below w.heap.size w wr ∧ G ≤ wr.heap.size) (fun i _ => 4 - (intOf i).toNat)
 case atStart => exact ⟨0, r7, by omega, rfl, ho7, H0.out, H1.out, H2.out, hbel7, hsz7⟩
 case round =>
  clear ho7 H0 H1 H2 hbel7 hsz7; obtain ⟨j, r1, hj, rfl, ho, h0, h1, h2, hbel, hsz⟩ := hrel; by_cases hj4 : j = 4
  · subst hj4
    have hr0 := range_data h0; go_wp2_with fail
    go_region_law (refine step_copy_upd rfl (.tmp 40) (.tmp 42) 183 183 rfl 5 Tryz.underlying183 u8Size (some ⟨w.heap.size + 1 + 1, 0, none⟩) (some ⟨w.heap.size, 0, none⟩) 32 32 16 16 (by go_simp) (by go_simp) (w.heap.size + 1 + 1) 0 (nats .u8 zero32) 90 h2 (nats .u8 d) (by rw [zaj, hd]; rfl) (fun _ => ⟨rfl, _, _, rfl, hr0⟩) (by rw [zaj, zaj, hd]; decide) (za1 _ _) ?_; intro w8 hU8; replace hU8 := hU8.undrew)
    as_aux_lemma =>
     have h28 := hU8.at_; have h18 := hU8.old h1 (by omega); have ho8 := ho.upd hU8 g2; have hbel8 := hU8.below hbel (by omega); have hsz8 := Nat.le_trans hsz (Nat.le_of_eq hU8.size.symm); rw [splice_a hd] at h28; have hl96 := mbits_length r l s k b o m; have HL := Lib.hid hl96; change IsOut w8 G G r1 (mbits r l s k b o m) at ho8
     clear ho h0 h1 h2 hbel hU8 hr0 hsz hl96; go_wp2_with fail
     go_region_law (first
      | (go_simp; go_at_call 134; refine (outbytes_any G G r1 _ _ (show IsOut w8.drew G G r1 _ from ho8) (by rw [HL.out]; omega)).mono ?_; rintro e w9 ⟨v9, rfl, hown9, hb9⟩; replace hb9 := below_undrew hb9; rw [HL.out] at hown9; obtain ⟨g9, c9, rfl, q1, q2, q3, q4⟩ := za7 hown9 (by decide); have h29 := zad h28 hb9; have hr9 := range_own hown9)
      | (refine step_copy_upd rfl (.tmp 44) (.tmp 46) 183 183 rfl 5 Tryz.underlying183 u8Size (some ⟨w.heap.size + 1 + 1, 16, none⟩) (some ⟨g9, 0, none⟩) 16 16 12 c9 (by go_simp) (by go_simp) (w.heap.size + 1 + 1) 16 _ 90 h29 (nats .u8 (headN r l s k b o m)) (by rw [zaj, headN_length]; rfl) (fun _ => ⟨rfl, _, _, rfl, hr9⟩) (by rw [zaj, zaj, headN_length, List.length_append, hd]; decide) (za1 _ _) ?_; intro w10 hU10))
     have h210 := hU10.at_; have hsz9 := hb9.size; have h110 := hU10.old (zad h18 hb9) (by omega); have ho10 := (ho8.below hb9).upd hU10 g2; have hbel10 := hU10.below (hbel8.trans (hb9.mono hbel8.size)) (by omega); have hsz10 : G ≤ w10.heap.size := by rw [hU10.size]; omega
     rw [show d ++ zero16 = d ++ (List.replicate 12 0 ++ List.replicate 4 0) by simp [zero16], splice_b hd (headN_length r l s k b o m) (by simp)] at h210; have hh := headN_length r l s k b o m; have hhl := headN_lt r l s k b o m; generalize hH : headN r l s k b o m = H at *; have HH := Lib.hid hH; clear hH; have hrd := rd_head h210 hd hh; have hkb := bytes_app d H hb hhl; have hk32 : kof (d ++ H) < 4294967296 := ksum_lt _ _ (by decide) hkb; clear hU10 h28 h18 ho8 hbel8 hsz8 hown9 hr9 h29 hb9 hsz9; go_wp2_with (go_at_call 135; refine (kof_any _ _ _ _ _ _ hrd hkb (by unfold maxLen; omega)).mono ?_; rintro e w' ⟨rfl, rfl⟩)
     refine (put_below G G r1 _ _ _ _ ho10 (by omega) (by omega) (by omega) (by simpa using hk32) (by rw [HL.out]; decide) hsz10).mono ?_; rintro e w11 ⟨rfl, r11, ho11, hb11⟩; have h211 := (hb11.block _ (by omega)).trans h210; have h111 := (hb11.block _ (by omega)).trans h110; have hbel11 := hbel10.trans (hb11.mono (by omega)); have hsz11 := Nat.le_trans hsz10 hb11.size; simp only [Int.toNat_natCast] at ho11; have HL2 := Lib.hid (show (mbits r l s k b o m ++ bitsL (kof (d ++ H)) 32).length = 128 by rw [List.length_append, HL.out, zaw]); change IsOut w11 G G r11 (mbits r l s k b o m ++ bitsL (kof (d ++ H)) 32) at ho11
     clear hrd ho10 h210 h110 hbel10 hsz10 hb11; go_wp2_with fail
     have HB := Lib.hid (show bytesN (mbits r l s k b o m ++ bitsL (kof (d ++ H)) 32) = H ++ crcN (d ++ H) by
      rw [bytesN_app _ _ (by rw [HL.out]) (by rw [zaw]), ← HH.out]; rfl)
     have HC := Lib.hid (show (H ++ crcN (d ++ H)).length = 16 by rw [List.length_append, hh, crcN_length]); have HP := Lib.hid (show pageN d r l s k b o m = d ++ (H ++ crcN (d ++ H)) by rw [pageN, HH.out, List.append_assoc]); have HPl := Lib.hid (pageN_length hd r l s k b o m); generalize mbits r l s k b o m ++ bitsL (kof (d ++ H)) 32 = L at *
     go_region_law (first
      | (go_simp; go_at_call 134; refine (outbytes_any G G r11 _ _ (show IsOut w11.drew G G r11 _ from ho11) (by rw [HL2.out]; omega)).mono ?_; rintro e w12 ⟨v12, rfl, hown12, hb12⟩; replace hb12 := below_undrew hb12; rw [HL2.out, HB.out] at hown12; obtain ⟨g12, c12, rfl, q5, q6, q7, q8⟩ := za7 hown12 (by decide); have h212 := zad h211 hb12; have hr12 := range_own hown12)
      | (refine step_copy_upd rfl (.tmp 53) (.tmp 55) 183 183 rfl 5 Tryz.underlying183 u8Size (some ⟨w.heap.size + 1 + 1, 16, none⟩) (some ⟨g12, 0, none⟩) 16 16 16 c12 (by go_simp) (by go_simp) (w.heap.size + 1 + 1) 16 _ 90 h212 (nats .u8 (H ++ crcN (d ++ H))) (by rw [zaj, HC.out]; rfl) (fun _ => ⟨rfl, _, _, rfl, hr12⟩) (by rw [zaj, zaj, HC.out, List.length_append, List.length_append, hd, hh]; decide) (za1 _ _) ?_; intro w13 hU13))
     have h213 := hU13.at_; rw [splice_c hd HC.out (by rw [List.length_append, hh]; rfl), ← HP.out] at h213; have h113 := hU13.old (zad h111 hb12) (by omega); have hbel13 := hU13.below (hbel11.trans (hb12.mono hbel11.size)) (by omega); clear hU13 h212 hr12 hown12 hb12 h211 h111 ho11 hbel11 hsz11 HB HC HP; go_wp2_with (first | (refine wpList_load_mid rfl 90 (.tmp 4) rfl (w.heap.size + 1 + 1) 0 rfl _ _ (zal h213) Tryz.underlying90 rfl (zbe HPl.out) ?_) | (refine zai rfl 90 (.tmp 2) (.tmp 57) rfl (w.heap.size + 1) (nats .u8 (pageN d r l s k b o m)) rfl rfl 90 _ h113 (zbe HPl.out) (by rw [zaj, HPl.out]; rfl) (za1 _ _) ?_; intro w14 hU14))
     refine bodyPost_ret (v := .tuple #[.agg (nats .u8 (pageN d r l s k b o m)).toArray, .bool true]) ?_ rfl ⟨rfl, hU14.below hbel13 (by omega)⟩; rw [zav rfl _ _ _ _ _ _ _ rfl hU14.at_ Tryz.underlying90 rfl (zbe HPl.out)]; rfl
  · have hstep : ∀ x : Int, 0 ≤ x → x < 256 → bitsL (metaN r l s) 64 ++ fldsN b o m k j ++ bitsL x.toNat 8 = bitsL (metaN r l s) 64 ++ fldsN b o m k (j + 1) → ∀ wq : World, wq = wr → Calls Tryz.prog 133 #[.pointer (some ⟨G, 0, none⟩), .int .u64 x, .int .i64 8] wq fun e w' => e = .returned (.bool true) ∧ ∃ r', IsOut w' G G r' (bitsL (metaN r l s) 64 ++ fldsN b o m k (j + 1)) ∧ w'.heap[w.heap.size]? = some (.cells (shV d r l s k b o m).toArray 153 (0, 0)) ∧
     w'.heap[w.heap.size + 1]? = some (.cells (nats .u8 zero32).toArray 90 (0, 0)) ∧ w'.heap[w.heap.size + 1 + 1]? = some (.cells (nats .u8 zero32).toArray 90 (0, 0)) ∧ Below w.heap.size w w' ∧ G ≤ w'.heap.size := by
     rintro x x0 x1 hx wq rfl
     have hlen : (bitsL (metaN r l s) 64 ++ fldsN b o m k j).length ≤ 1000 := by
      rw [List.length_append, zaw]
      have : (fldsN b o m k j).length ≤ 32 := by
       rcases (show j = 0 ∨ j = 1 ∨ j = 2 ∨ j = 3 by omega) with rfl | rfl | rfl | rfl <;> simp [fldsN, zaw]
      omega
     refine (put_below G G r1 _ x 8 wq ho x0 (by omega) (by omega) (by simpa using (by omega : x.toNat < 256)) (by simp at hlen ⊢; omega) hsz).mono ?_; rintro e w' ⟨rfl, r', ho', hb'⟩; refine ⟨rfl, r', ?_, (hb'.block _ (by omega)).trans h0, (hb'.block _ (by omega)).trans h1, (hb'.block _ (by omega)).trans h2, hbel.trans (hb'.mono (by omega)), Nat.le_trans hsz hb'.size⟩; rw [← hx]; exact ho'
    obtain ⟨x, x0, x1, hx, hix⟩ : ∃ x : Int, 0 ≤ x ∧ x < 256 ∧ bitsL (metaN r l s) 64 ++ fldsN b o m k j ++ bitsL x.toNat 8 = bitsL (metaN r l s) 64 ++ fldsN b o m k (j + 1) ∧ ∀ w, (Instr.index 187 (.agg #[.int .i64 b, .int .i64 o, .int .i64 m, .int .i64 k]) (.int .i64 (j : Int))).run Tryz.prog w = .ok (.int .i64 x) w := by
     rcases (show j = 0 ∨ j = 1 ∨ j = 2 ∨ j = 3 by omega) with rfl | rfl | rfl | rfl
     · exact ⟨b, b0, by omega, by simp [fldsN], fun _ => by kernel_rfl⟩
     · exact ⟨o, o0, by omega, by simp [fldsN], fun _ => by kernel_rfl⟩
     · exact ⟨m, m0, m1, by simp [fldsN], fun _ => by kernel_rfl⟩
     · exact ⟨k, by omega, by omega, by simp [fldsN], fun _ => by kernel_rfl⟩
    have HSt := Lib.hid (hstep x x0 x1 hx); have hlt4 : (j : Int) < 4 := by omega
    clear hstep ho h0 h1 h2 hbel hx hj4; go_wp2_with fail
    refine (HSt.out _ rfl).mono ?_; rintro e w' ⟨rfl, r', hp⟩; go_wp2_with fail
    go_roundw
    case rel => exact ⟨j + 1, r', by omega, by go_num, hp⟩
    case measure => simp [intOf]; omega
def putP (d : List Nat) (r l s k b o m : Int) : List Nat := if maySh d r l s k b o m then pageN d r l s k b o m else zero32
theorem put_sherd (d : List Nat) (r l s k b o m : Int) (w : World) (hd : d.length = 16) (hb : ∀ x ∈ d, x < 256) :
 Calls Tryz.prog 115 #[.agg (shV d r l s k b o m).toArray] w fun e w' => e = .returned (.tuple #[.agg (nats .u8 (putP d r l s k b o m)).toArray, .bool (maySh d r l s k b o m)]) ∧ Below w.heap.size w w' := by
 unfold putP
 cases hM : maySh d r l s k b o m with
 | false => exact put_no d r l s k b o m w hd hb hM
 | true => exact put_yes d r l s k b o m w hd hb hM
end Go.Proofs.YtpbigfopmompfaaGreat
namespace Go.Proofs.YtpbigfopmompfaaGreat
open Go.RowKit
theorem zat {P : Program} {ops : Array Oper} {rest : List Oper} {op : Oper} {a : Act} {w : World} {Q : Exit → Act → World → Prop} (ty : TypeId) (x : Operand) (ho : op.op = .load ty x) (b i : Nat) (hx : a.eval x = .pointer (some ⟨b, i, none⟩))
 (hw : Region.wanted op (yielded ops a.tmps) = true) (cs : List Value) (d : TypeDesc) (hc : w.rangeAt b i cs) (hu : P.underlying ty = some d) (hd : d.isRow = true) (hi : (P.info? ty).map (·.size) = some cs.length)
 (h : wpList P ops Q rest (a.put op.dst (.agg cs.toArray)) w) : wpList P ops Q (op :: rest) a w := by
 unfold wpList
 rw [if_pos hw]
 exact .inl (wp_load_mid ty x ho b i hx cs d hc hu hd hi h)
theorem flatPage : flat Tryz.prog 4 90 = some (List.replicate 32 (Kd.int .u8)) := by kernel_rfl
theorem eqPage : eqOk Tryz.prog 4 90 = true := by kernel_rfl
theorem neq_page (w : World) (a b : List Nat) (ha : ∀ x ∈ a, x < 256) (hb : ∀ x ∈ b, x < 256) (la : a.length = 32) (lb : b.length = 32) :
 (binOp .neq 90 (.agg (nats .u8 a).toArray) (.agg (nats .u8 b).toArray)).run Tryz.prog w = .ok (.bool (!(a == b))) w := by
 have oa := ok_bytes a ha
 have ob := ok_bytes b hb
 rw [la] at oa
 rw [lb] at ob
 rw [run_neq_flat w flatPage eqPage (by kernel_rfl) (by decide) oa ob, lEq_nats ha hb (by omega)]
theorem eql_page (w : World) (a b : List Nat) (ha : ∀ x ∈ a, x < 256) (hb : ∀ x ∈ b, x < 256) (la : a.length = 32) (lb : b.length = 32) :
 (binOp .eql 90 (.agg (nats .u8 a).toArray) (.agg (nats .u8 b).toArray)).run Tryz.prog w = .ok (.bool (a == b)) w := by
 have oa := ok_bytes a ha
 have ob := ok_bytes b hb
 rw [la] at oa
 rw [lb] at ob
 rw [run_eql_flat w flatPage eqPage (by kernel_rfl) (by decide) oa ob, lEq_nats ha hb (by omega)]
theorem splice_sh {P : List Nat} (h : P.length = 32) : splice (shV zero16 0 0 0 0 0 0 0) 0 (nats .u8 (P.take 16)) = shV (P.take 16) 0 0 0 0 0 0 0 := by
 have hl : (P.take 16).length = 16 := by rw [List.length_take]; omega
 obtain ⟨d0, d1, d2, d3, d4, d5, d6, d7, d8, d9, d10, d11, d12, d13, d14, d15, he⟩ := split16 hl
 rw [he]; rfl
theorem range_take {w : World} {g : Nat} {P : List Nat} {t : TypeId} {fr : Nat × Nat} (n : Nat) (h : w.heap[g]? = some (.cells (nats .u8 P).toArray t fr)) : w.rangeAt g 0 (nats .u8 (P.take n)) :=
 zbo h [] (nats .u8 (P.take n)) (nats .u8 (P.drop n)) (by rw [List.nil_append]; simp only [nats, ← List.map_append, List.take_append_drop]) 0 rfl
theorem rd_drop {w : World} {g C n m : Nat} {P : List Nat} {t : TypeId} {fr : Nat × Nat} (h : w.heap[g]? = some (.cells (nats .u8 P).toArray t fr)) (hn : n ≤ P.length) (hm : P.length - n = m) (hC : g < C) : Rd w C (some ⟨g, n, none⟩) m (nats .u8 (P.drop n)) :=
 rd_of_range (zbo h (nats .u8 (P.take n)) (nats .u8 (P.drop n)) [] (by rw [List.append_nil]; simp only [nats, ← List.map_append, List.take_append_drop]) n (by rw [zaj, List.length_take]; omega)) (by rw [zaj, List.length_drop]; omega) hC
def readV (P : List Nat) (j : Nat) : List Value := shV (P.take 16) (rR P) (rL P) (rS P) (if 4 ≤ j then rK P else 0) (if 1 ≤ j then rB P else 0) (if 2 ≤ j then rO P else 0) (if 3 ≤ j then rMask P else 0)
theorem sh_sets {d : List Nat} (hd : d.length = 16) (r l s k b o m x : Int) : (shV d r l s k b o m).set 16 (.int .i64 x) = shV d x l s k b o m ∧ (shV d r l s k b o m).set 17 (.int .i64 x) = shV d r x s k b o m ∧ (shV d r l s k b o m).set 18 (.int .i64 x) = shV d r l x k b o m ∧
 (shV d r l s k b o m).set 19 (.int .i64 x) = shV d r l s x b o m ∧ (shV d r l s k b o m).set 20 (.int .i64 x) = shV d r l s k x o m ∧ (shV d r l s k b o m).set 21 (.int .i64 x) = shV d r l s k b x m ∧ (shV d r l s k b o m).set 22 (.int .i64 x) = shV d r l s k b o x := by
 obtain ⟨d0, d1, d2, d3, d4, d5, d6, d7, d8, d9, d10, d11, d12, d13, d14, d15, rfl⟩ := split16 hd
 exact ⟨rfl, rfl, rfl, rfl, rfl, rfl, rfl⟩
theorem IsIn.upd {w w' : World} {C g : Nat} {l : List Nat} {a : Nat} (h : IsIn w C g l a) {G : Nat} {o : Obj} (hU : Upd G o w w') (hne : g ≠ G) (hC : C ≤ G) : IsIn w' C g l a := by
 obtain ⟨A, c, h1, h2, h3⟩ := h
 exact ⟨A, c, hU.old h1 hne, hU.rd h2 hC, h3⟩
theorem get_int (C g : Nat) (P : List Nat) (at_ : Nat) (V : Int) (w : World) (hi : IsIn w C g (P.drop 16) at_) (hP : P.length = 32) (hb : ∀ x ∈ P, x < 256) (h1 : 1 ≤ V) (h2 : V ≤ 64) (ha : at_ + V.toNat ≤ 128) :
 Calls Tryz.prog 137 #[.pointer (some ⟨g, 0, none⟩), .int .i64 V] w fun e w' => e = .returned (.tuple #[.int .u64 (fld P (128 + at_) V.toNat : Int), .bool true]) ∧ IsIn w' C g (P.drop 16) (at_ + V.toNat) ∧ Keep (fun k => k = g) w w' := by
 obtain ⟨K, rfl⟩ := Int.eq_ofNat_of_zero_le (show 0 ≤ V by omega)
 simp only [Int.toNat_natCast] at *
 have hl : (P.drop 16).length = 16 := by rw [List.length_drop]; omega
 have h := get_yes C g (P.drop 16) at_ K w hi (drop_lt hb _) (by omega) (by omega) (by omega) (by omega)
 rw [cut_behind] at h
 exact h
def getB (P : List Nat) : Bool := maySh (P.take 16) (rR P) (rL P) (rS P) (rK P) (rB P) (rO P) (rMask P) && (fld P 224 32 == kof (P.take 28))
def getV (P : List Nat) : List Value := if getB P then readV P 4 else shV zero16 0 0 0 0 0 0 0
def getE (P : List Nat) : Int := if getB P then 0 else 1
set_option maxRecDepth 100000 in
set_option maxHeartbeats 4000000 in
theorem get_sherd (P : List Nat) (w : World) (hP : P.length = 32) (hb : ∀ x ∈ P, x < 256) :
 Calls Tryz.prog 116 #[.agg (nats .u8 P).toArray] w fun e w' => e = .returned (.tuple #[.agg (getV P).toArray, .int .i64 (getE P)]) ∧ Below w.heap.size w w' := by
 have hl16 : (P.take 16).length = 16 := by rw [List.length_take]; omega
 have HP := Lib.hid hP
 have HT := Lib.hid hl16
 clear hP hl16
 go_enter Tryz.func116, Tryz.ntmps116
 go_upto_region 2 with fail
 have h0 := heap_at2' w (.cells (nats .u8 P).toArray 90) (.cells (shV zero16 0 0 0 0 0 0 0).toArray 153) (.cells (shV zero16 0 0 0 0 0 0 0).toArray 153)
 have h1 := heap_at2 w (.cells (nats .u8 P).toArray 90) (.cells (shV zero16 0 0 0 0 0 0 0).toArray 153) (.cells (shV zero16 0 0 0 0 0 0 0).toArray 153)
 have h2 := zak ((w.alloc (.cells (nats .u8 P).toArray 90)).alloc (.cells (shV zero16 0 0 0 0 0 0 0).toArray 153)) (.cells (shV zero16 0 0 0 0 0 0 0).toArray 153) (w.heap.size + 1 + 1) (by simp)
 have hbel := below3 w (.cells (nats .u8 P).toArray 90) (.cells (shV zero16 0 0 0 0 0 0 0).toArray 153) (.cells (shV zero16 0 0 0 0 0 0 0).toArray 153)
 change Code.wp _ _ _ _ (((w.alloc (.cells (nats .u8 P).toArray 90)).alloc (.cells (shV zero16 0 0 0 0 0 0 0).toArray 153)).alloc (.cells (shV zero16 0 0 0 0 0 0 0).toArray 153))
 generalize ((w.alloc (.cells (nats .u8 P).toArray 90)).alloc (.cells (shV zero16 0 0 0 0 0 0 0).toArray 153)).alloc (.cells (shV zero16 0 0 0 0 0 0 0).toArray 153) = w1 at *
 have hr0 := range_take 16 h0
 go_region_law (refine step_copy_upd rfl (.tmp 15) (.tmp 16) 183 183 rfl 5 Tryz.underlying183 u8Size (some ⟨w.heap.size + 1 + 1, 0, none⟩) (some ⟨w.heap.size, 0, none⟩) 16 16 32 32 (by go_simp) (by go_simp) (w.heap.size + 1 + 1) 0 (shV zero16 0 0 0 0 0 0 0) 153 h2 (nats .u8 (P.take 16)) (by rw [zaj, HT.out]; rfl) (fun _ => ⟨rfl, _, _, rfl, hr0⟩) (by rw [zaj, HT.out, shV_len0]; decide) (za1 _ _) ?_; intro w2 hU2; replace hU2 := hU2.undrew)
 have h22 := hU2.at_
 rw [splice_sh HP.out] at h22
 have h02 := hU2.old h0 (by omega)
 have h12 := hU2.old h1 (by omega)
 have hbel2 := hU2.below hbel (by omega)
 have hrd := rd_drop (n := 16) (m := 16) (C := w.heap.size + 1) h02 (by rw [HP.out]; decide) (by rw [HP.out]) (by omega)
 have s02 := zag h22
 have HR := Lib.hid hrd
 clear h0 h1 h2 hbel hr0 hU2 hrd
 go_wp2_with fail
 refine (read_any _ _ _ _ _ _ HR.out (by omega)).mono ?_
 rintro e w3 ⟨rfl, hin, hb3⟩
 have h23 := zad h22 hb3
 have h13 := zad h12 hb3
 have h03 := zad h02 hb3
 have hbel3 := hbel2.trans (hb3.mono hbel2.size)
 generalize w2.heap.size = G at *
 clear h22 h12 h02 hbel2 hb3 HR
 go_wp2_with fail
 have C1 : Calls Tryz.prog 137 #[.pointer (some ⟨G, 0, none⟩), .int .i64 64] w3 fun e w' => e = .returned (.tuple #[.int .u64 (rM P : Int), .bool true]) ∧ IsIn w' (w.heap.size + 1) G (P.drop 16) 64 ∧ Keep (fun k => k = G) w3 w' := get_int _ _ _ _ _ _ hin HP.out hb (by omega) (by omega) (by decide)
 refine C1.mono ?_
 rintro e w4 ⟨rfl, hin4, hk4⟩
 have h24 := zay h23 hk4 (by omega)
 have h14 := zay h13 hk4 (by omega)
 have h04 := zay h03 hk4 (by omega)
 have hbel4 := hbel3.trans (hk4.below (B := w.heap.size) (by have := zag h23; omega) (fun i hi => by omega))
 have hM := rM_lt HP.out
 clear C1 h23 h13 h03 hbel3 hin hk4
 go_wp2_with fail
 refine (of_sherd _ _ (by omega) (by omega)).mono ?_
 rintro e w' ⟨rfl, rfl⟩
 have f16 := zar h24 16
 have f17 := zar h24 17
 have f18 := zar h24 18
 obtain ⟨c16, c17, c18, -⟩ := za6 HT.out h24
 go_wp2_with fail
 have U1 := zas (i := 16) h24 (.int .i64 (roleI (rM P : Int)))
 have U2 := zas (i := 17) U1.at_ (.int .i64 (lpnI (rM P : Int)))
 have U3 := zas (i := 18) U2.at_ (.int .i64 (seqI (rM P : Int)))
 have h25 := U3.at_
 rw [(sh_sets HT.out _ _ _ _ _ _ _ _).1, (sh_sets HT.out _ _ _ _ _ _ _ _).2.1, (sh_sets HT.out _ _ _ _ _ _ _ _).2.2.1] at h25
 have h15 := U3.old (U2.old (U1.old h14 (by omega)) (by omega)) (by omega)
 have h05 := U3.old (U2.old (U1.old h04 (by omega)) (by omega)) (by omega)
 have hin5 := ((hin4.upd U1 (by omega) (by omega)).upd U2 (by omega) (by omega)).upd U3 (by omega) (by omega)
 have hbel5 := U3.below (U2.below (U1.below hbel4 (by omega)) (by omega)) (by omega)
 change (((w4.setCell _ _).setCell _ _).setCell _ _).heap[w.heap.size + 1 + 1]? = some (.cells (readV P 0).toArray 153 (0, 0)) at h25
 clear U1 U2 U3 c16 c17 c18 f16 f17 f18 h24 h14 h04 hin4 hbel4
 generalize ((w4.setCell ⟨w.heap.size + 1 + 1, 16, none⟩ (.int .i64 (roleI (rM P : Int)))).setCell ⟨w.heap.size + 1 + 1, 17, none⟩ (.int .i64 (lpnI (rM P : Int)))).setCell ⟨w.heap.size + 1 + 1, 18, none⟩ (.int .i64 (seqI (rM P : Int))) = w5 at *
 go_loopw [39] (fun i wr => ∃ j : Nat, j ≤ 4 ∧ i = .int .i64 j ∧ wr.heap[w.heap.size + 1 + 1]? = some (.cells (readV P j).toArray 153 (0, 0)) ∧ wr.heap[w.heap.size + 1]? = some (.cells (shV zero16 0 0 0 0 0 0 0).toArray 153 (0, 0)) ∧
  wr.heap[w.heap.size]? = some (.cells (nats .u8 P).toArray 90 (0, 0)) ∧ IsIn wr (w.heap.size + 1) G (P.drop 16) (64 + 8 * j) ∧ Below w.heap.size w wr) (fun i _ => 4 - (intOf i).toNat)
 case atStart => exact ⟨0, by omega, rfl, h25, h15, h05, hin5, hbel5⟩
 case round =>
  clear h25 h15 h05 hin5 hbel5; obtain ⟨j, hj, rfl, h2, h1, h0, hin, hbel⟩ := hrel; by_cases hj4 : j = 4
  · subst hj4
    clear hin; have hV := za4 (P.take 16) HT.out (rR P) (rL P) (rS P) (rK P) (rB P) (rO P) (rMask P); change wr.heap[w.heap.size + 1 + 1]? = some (.cells (shV (P.take 16) (rR P) (rL P) (rS P) (rK P) (rB P) (rO P) (rMask P)).toArray 153 (0, 0)) at h2
    go_wp2_with (first | (refine wpList_load_mid rfl 153 (.tmp 4) rfl (w.heap.size + 1 + 1) 0 rfl _ _ (zal h2) Tryz.underlying153 rfl hV ?_))
    refine (put_sherd _ _ _ _ _ _ _ _ _ HT.out (take_lt hb 16)).mono ?_; rintro e w6 ⟨rfl, hb6⟩; have h26 := zad h2 hb6; have h16 := zad h1 hb6; have h06 := zad h0 hb6; have hbel6 := hbel.trans (hb6.mono hbel.size); clear h2 h1 h0 hbel hb6; have n0 : w.heap.size ≠ w6.heap.size := by have := zag h06; omega
    have n1 : w.heap.size + 1 ≠ w6.heap.size := by have := zag h16; omega
    have n2 : w.heap.size + 1 + 1 ≠ w6.heap.size := by have := zag h26; omega
    unfold putP; cases hM2 : maySh (P.take 16) (rR P) (rL P) (rS P) (rK P) (rB P) (rO P) (rMask P) with
    | false =>
     have HE := Lib.hid (show (Ending.returned (.tuple #[.agg (getV P).toArray, .int .i64 (getE P)])) = Ending.returned (.tuple #[.agg (shV zero16 0 0 0 0 0 0 0).toArray, .int .i64 1]) by unfold getV getE getB; rw [hM2]; rfl); clear hM2; go_wp2_with (first | (refine zai rfl 90 (.tmp 12) (.tmp 55) rfl w6.heap.size (nats .u8 zero32) rfl rfl 90 _ (zak w6 _ _ rfl) (zbe rfl) rfl (za1 _ _) ?_; intro w7 hU7; have h17 := hU7.old (zam h16 _) n1; have h27 := hU7.old (zam h26 _) n2; have h07 := hU7.old (zam h06 _) n0; have h77 := hU7.at_; have hbel7 := hU7.below (hbel6.alloc hbel6.size _) hbel6.size) | (refine zao rfl 153 _ rfl _ rfl _ built_zero ?_) | (refine zai rfl 153 (.tmp 2) (.tmp 64) rfl (w.heap.size + 1) (shV zero16 0 0 0 0 0 0 0) rfl rfl 153 _ h17 (za4 _ rfl _ _ _ _ _ _ _) rfl (zbb _ _ _ _ _ _ _ _) ?_; intro w8 hU8))
     refine bodyPost_ret (v := .tuple #[.agg (shV zero16 0 0 0 0 0 0 0).toArray, .int .i64 1]) ?_ rfl ⟨by rw [HE.out], hU8.below hbel7 (by omega)⟩; rw [zav rfl _ _ _ _ _ _ _ rfl hU8.at_ Tryz.underlying153 rfl (za4 _ rfl _ _ _ _ _ _ _)]; rfl
    | true =>
     have hp := page_iff HP.out hb; have hpl := pageN_length HT.out (rR P) (rL P) (rS P) (rK P) (rB P) (rO P) (rMask P); have hpb := pageN_lt (take_lt hb 16) (rR P) (rL P) (rS P) (rK P) (rB P) (rO P) (rMask P); simp only [if_true]; have hne := fun w => neq_page w _ P hpb hb hpl HP.out
     have hQ := zbe hpl; have hQl := Lib.hid hpl; clear hpl hpb; have hPI := zbe HP.out; cases hk : fld P 224 32 == kof (P.take 28) with
     | false =>
      have HE := Lib.hid (show (Ending.returned (.tuple #[.agg (getV P).toArray, .int .i64 (getE P)])) = Ending.returned (.tuple #[.agg (shV zero16 0 0 0 0 0 0 0).toArray, .int .i64 1]) by unfold getV getE getB; rw [hM2, hk]; rfl); have hq : (pageN (P.take 16) (rR P) (rL P) (rS P) (rK P) (rB P) (rO P) (rMask P) == P) = false := by rw [beq_eq_false_iff_ne]; intro e; rw [beq_eq_false_iff_ne] at hk; exact hk (hp.1 e)
      rw [hq] at hne; clear hM2 hk hp hq; generalize pageN (P.take 16) (rR P) (rL P) (rS P) (rK P) (rB P) (rO P) (rMask P) = pg at *; go_wp2_with (first | (refine zai rfl 90 (.tmp 12) (.tmp 55) rfl w6.heap.size (nats .u8 pg) rfl rfl 90 _ (zak w6 _ _ rfl) hQ (by rw [zaj, hQl.out]; rfl) (za1 _ _) ?_; intro w7 hU7; have h17 := hU7.old (zam h16 _) n1; have h27 := hU7.old (zam h26 _) n2; have h07 := hU7.old (zam h06 _) n0; have h77 := hU7.at_; have hbel7 := hU7.below (hbel6.alloc hbel6.size _) hbel6.size) | (refine zat 90 (.tmp 12) rfl w6.heap.size 0 rfl rfl _ _ (zal h77) Tryz.underlying90 rfl hQ ?_) | (refine zat 90 (.tmp 1) rfl w.heap.size 0 rfl rfl _ _ (zal h07) Tryz.underlying90 rfl hPI ?_) | (refine zao rfl 153 _ rfl _ rfl _ built_zero ?_) | (refine zai rfl 153 (.tmp 2) (.tmp 64) rfl (w.heap.size + 1) (shV zero16 0 0 0 0 0 0 0) rfl rfl 153 _ h17 (za4 _ rfl _ _ _ _ _ _ _) rfl (zbb _ _ _ _ _ _ _ _) ?_; intro w8 hU8))
      refine bodyPost_ret (v := .tuple #[.agg (shV zero16 0 0 0 0 0 0 0).toArray, .int .i64 1]) ?_ rfl ⟨by rw [HE.out], hU8.below hbel7 (by omega)⟩; rw [zav rfl _ _ _ _ _ _ _ rfl hU8.at_ Tryz.underlying153 rfl (za4 _ rfl _ _ _ _ _ _ _)]; rfl
     | true =>
      have HE := Lib.hid (show (Ending.returned (.tuple #[.agg (getV P).toArray, .int .i64 (getE P)])) = Ending.returned (.tuple #[.agg (shV (P.take 16) (rR P) (rL P) (rS P) (rK P) (rB P) (rO P) (rMask P)).toArray, .int .i64 0]) by unfold getV getE getB; rw [hM2, hk]; rfl); have hq : (pageN (P.take 16) (rR P) (rL P) (rS P) (rK P) (rB P) (rO P) (rMask P) == P) = true := by rw [beq_iff_eq] at hk ⊢; exact hp.2 hk
      rw [hq] at hne; clear hM2 hk hp hq; generalize pageN (P.take 16) (rR P) (rL P) (rS P) (rK P) (rB P) (rO P) (rMask P) = pg at *; have hVl := Lib.hid (zba HT.out (rR P) (rL P) (rS P) (rK P) (rB P) (rO P) (rMask P)); go_wp2_with (first | (refine zai rfl 90 (.tmp 12) (.tmp 55) rfl w6.heap.size (nats .u8 pg) rfl rfl 90 _ (zak w6 _ _ rfl) hQ (by rw [zaj, hQl.out]; rfl) (za1 _ _) ?_; intro w7 hU7; have h17 := hU7.old (zam h16 _) n1; have h27 := hU7.old (zam h26 _) n2; have h07 := hU7.old (zam h06 _) n0; have h77 := hU7.at_; have hbel7 := hU7.below (hbel6.alloc hbel6.size _) hbel6.size) | (refine zat 90 (.tmp 12) rfl w6.heap.size 0 rfl rfl _ _ (zal h77) Tryz.underlying90 rfl hQ ?_) | (refine zat 90 (.tmp 1) rfl w.heap.size 0 rfl rfl _ _ (zal h07) Tryz.underlying90 rfl hPI ?_) | (refine wpList_load_mid rfl 153 (.tmp 4) rfl (w.heap.size + 1 + 1) 0 rfl _ _ (zal h27) Tryz.underlying153 rfl hV ?_) | (refine zai rfl 153 (.tmp 2) (.tmp 65) rfl (w.heap.size + 1) (shV (P.take 16) (rR P) (rL P) (rS P) (rK P) (rB P) (rO P) (rMask P)) rfl rfl 153 _ h17 hV (by rw [hVl.out]; rfl) (zbb _ _ _ _ _ _ _ _) ?_; intro w8 hU8))
      refine bodyPost_ret (v := .tuple #[.agg (shV (P.take 16) (rR P) (rL P) (rS P) (rK P) (rB P) (rO P) (rMask P)).toArray, .int .i64 0]) ?_ rfl ⟨by rw [HE.out], hU8.below hbel7 (by omega)⟩; rw [zav rfl _ _ _ _ _ _ _ rfl hU8.at_ Tryz.underlying153 rfl hV]; rfl
  · obtain ⟨off, hof, hix, hset⟩ : ∃ off : Nat, off < 23 ∧ (∀ w', (Instr.index 196 (.agg #[.pointer (some ⟨w.heap.size + 1 + 1, 20, none⟩), .pointer (some ⟨w.heap.size + 1 + 1, 21, none⟩), .pointer (some ⟨w.heap.size + 1 + 1, 22, none⟩), .pointer (some ⟨w.heap.size + 1 + 1, 19, none⟩)]) (.int .i64 (j : Int))).run Tryz.prog w' = .ok (.pointer (some ⟨w.heap.size + 1 + 1, off, none⟩)) w') ∧
     (readV P j).set off (.int .i64 (fld P (192 + 8 * j) 8 : Int)) = readV P (j + 1) := by
     have hs := sh_sets HT.out; rcases (show j = 0 ∨ j = 1 ∨ j = 2 ∨ j = 3 by omega) with rfl | rfl | rfl | rfl
     · exact ⟨20, by decide, fun _ => by kernel_rfl, (hs ..).2.2.2.2.1⟩
     · exact ⟨21, by decide, fun _ => by kernel_rfl, (hs ..).2.2.2.2.2.1⟩
     · exact ⟨22, by decide, fun _ => by kernel_rfl, (hs ..).2.2.2.2.2.2⟩
     · exact ⟨19, by decide, fun _ => by kernel_rfl, (hs ..).2.2.2.1⟩
    have e1 : 128 + (64 + 8 * j) = 192 + 8 * j := by omega
    have C1 := get_int _ _ _ _ 8 _ hin HP.out hb (by omega) (by omega) (by show 64 + 8 * j + 8 ≤ 128; omega); rw [e1] at C1; have C2 : Calls Tryz.prog 137 #[.pointer (some ⟨G, 0, none⟩), .int .i64 8] wr fun e w' => e = .returned (.tuple #[.int .u64 (fld P (192 + 8 * j) 8 : Int), .bool true]) ∧ IsIn w' (w.heap.size + 1) G (P.drop 16) (64 + 8 * j + 8) ∧ Keep (fun k => k = G) wr w' := C1
    have hx := fld_lt P (192 + 8 * j) 8 (by rw [HP.out]; omega); have HS := Lib.hid hset; have HC := Lib.hid C2; have H2 := Lib.hid h2; have H1 := Lib.hid h1; have H0 := Lib.hid h0; clear e1 C1 C2 hset h2 h1 h0 hin; generalize fld P (192 + 8 * j) 8 = x at *; have hlt4 : (j : Int) < 4 := by omega
    have hx2 : (x : Int) < 256 := by omega
    go_wp2_with fail
    refine HC.out.mono ?_; rintro e w6 ⟨rfl, hin6, hk6⟩; have h2 := zay H2.out hk6 (by omega); have hlen : (readV P j).length = 23 := zba HT.out _ _ _ _ _ _ _; obtain ⟨z, hz⟩ : ∃ z, (readV P j)[off]? = some z := ⟨_, List.getElem?_eq_getElem (by omega)⟩; have c6 : w6.cell? ⟨w.heap.size + 1 + 1, off, none⟩ = some z := by rw [zaf h2, List.getElem?_toArray, hz]
    have f6 := zar h2 off; have hU := zas (i := off) h2 (.int .i64 (x : Int)); have h26 := hU.at_; rw [HS.out] at h26; have HR := Lib.hid (And.intro h26 (And.intro (hU.old (zay H1.out hk6 (by omega)) (by omega)) (And.intro (hU.old (zay H0.out hk6 (by omega)) (by omega)) (And.intro (hin6.upd hU (by omega) (by omega)) (hU.below (hbel.trans (hk6.below (B := w.heap.size) (by have := zag H2.out; omega) (fun i hi => by omega))) (by omega)))))); clear h26 hU h2 hin6 hk6 hlen hz; go_wp2_with fail
    go_roundw
    case rel => exact ⟨j + 1, by omega, by go_num, HR.out.1, HR.out.2.1, HR.out.2.2.1, by have := HR.out.2.2.2.1; rwa [show 64 + 8 * j + 8 = 64 + 8 * (j + 1) by omega] at this, HR.out.2.2.2.2⟩
    case measure => simp [intOf]; omega
end Go.Proofs.YtpbigfopmompfaaGreat
namespace Go.Proofs.YtpbigfopmompfaaGreat
open Go.RowKit
theorem blank1 (x : Nat) (w : World) : Calls Tryz.prog 144 #[.int .u8 (x : Int)] w fun e w' => e = .returned (.bool ((x : Int) != 255)) ∧ w = w' := by
 go_enter Tryz.func144, Tryz.ntmps144
 go_wp2
 go_ret
 exact ⟨rfl, rfl⟩
def SomeIdx (w : World) (e : Ending) (w' : World) : Prop := ∃ i : Nat, i ≤ 1000 ∧ e = .returned (.int .i64 (i : Int)) ∧ w = w'
theorem index_none (A : Option Addr) (n c B : Nat) (l : List Nat) (w : World) (hr : Rd w B A n (nats .u8 l)) (hn : n ≤ 1000) (h : ∀ x ∈ l, x = 255) :
 Calls Tryz.prog 169 #[.slice A n c, .func (.func 144) #[] #[]] w fun e w' => e = .returned (.int .i64 (-1)) ∧ w = w' := by
 have hl : l.length = n := by have := hr.1; rwa [zaj] at this
 have HL := Lib.hid hl
 clear hl
 go_enter Tryz.func169, Tryz.ntmps169
 go_wp2
 go_loop [8] (fun i => ∃ k : Nat, k ≤ n ∧ i = .int .i64 k) (fun i => n - (intOf i).toNat)
 case atStart => exact ⟨0, by omega, rfl⟩
 case round =>
  obtain ⟨k, hk, rfl⟩ := hrel; by_cases hlt : k < n
  · have hkl : k < l.length := by rw [HL.out]; exact hlt
    obtain ⟨b, o, rfl, hb, hc⟩ := hr.at_ hlt; rw [nats_at .u8 l k hkl, h _ (List.getElem_mem hkl)] at hc; have hlt2 : (k : Int) < (n : Int) := by omega
    go_wp2_with fail
    refine (blank1 255 _).mono ?_; rintro e w' ⟨rfl, rfl⟩; go_wp2
    go_round
    case rel => exact ⟨k + 1, by omega, by go_num⟩
    case measure => simp [intOf]; omega
  · obtain rfl : k = n := by omega
    go_wp2
    go_ret
    exact ⟨rfl, rfl⟩
theorem index_some (A : Option Addr) (n c B : Nat) (l : List Nat) (w : World) (hr : Rd w B A n (nats .u8 l)) (hn : n ≤ 1000) (h : ¬ ∀ x ∈ l, x = 255) :
 Calls Tryz.prog 169 #[.slice A n c, .func (.func 144) #[] #[]] w (SomeIdx w) := by
 have hl : l.length = n := by have := hr.1; rwa [zaj] at this
 have HL := Lib.hid hl
 clear hl
 go_enter Tryz.func169, Tryz.ntmps169
 go_wp2
 go_loop [8] (fun i => ∃ k : Nat, k ≤ n ∧ i = .int .i64 k ∧ ∀ j (hj : j < l.length), j < k → l[j] = 255) (fun i => n - (intOf i).toNat)
 case atStart => exact ⟨0, by omega, rfl, fun _ _ h => by omega⟩
 case round =>
  obtain ⟨k, hk, rfl, hall⟩ := hrel; have HA := Lib.hid hall; clear hall; by_cases hlt : k < n
  · have hkl : k < l.length := by rw [HL.out]; exact hlt
    obtain ⟨b, o, rfl, hb, hc⟩ := hr.at_ hlt; rw [nats_at .u8 l k hkl] at hc; have hlt2 : (k : Int) < (n : Int) := by omega
    have HH := Lib.hid h; clear h; by_cases hx : l[k] = 255
    · rw [hx] at hc
      have HX := Lib.hid hx; clear hx; go_wp2_with fail
      refine (blank1 255 _).mono ?_; rintro e w' ⟨rfl, rfl⟩; go_wp2
      go_round
      case rel => exact ⟨k + 1, by omega, by go_num, fun j hj h => by
       rcases Nat.lt_or_ge j k with h1 | h1
       · exact HA.out j hj h1
       · obtain rfl : j = k := by omega
         exact HX.out⟩
      case measure => simp [intOf]; omega
    · have ht : ((l[k] : Int) != 255) = true := by rw [bne_iff_ne]; omega
      generalize l[k] = x at *; clear hx; go_wp2_with fail
      refine (blank1 x _).mono ?_; rw [ht]; rintro e w' ⟨rfl, rfl⟩; go_wp2
      go_ret
      exact ⟨k, by omega, rfl, rfl⟩
  · obtain rfl : k = n := by omega
    exact absurd (fun x hx => by obtain ⟨j, hj, rfl⟩ := List.getElem_of_mem hx; exact HA.out j hj (by rw [← HL.out]; exact hj)) h
def blankB (P : List Nat) : Bool := P.all (· == 255)
theorem contains_blank (A : Option Addr) (n c B : Nat) (l : List Nat) (w : World) (hr : Rd w B A n (nats .u8 l)) (hn : n ≤ 1000) :
 Calls Tryz.prog 143 #[.slice A n c, .func (.func 144) #[] #[]] w fun e w' => e = .returned (.bool (!blankB l)) ∧ w = w' := by
 by_cases h : ∀ x ∈ l, x = 255
 · have hB := Lib.hid (show blankB l = true by unfold blankB; simpa using h)
   rw [hB.out]; have H := Lib.hid h; clear h; go_enter Tryz.func143, Tryz.ntmps143
   go_wp2_with fail
   refine (index_none _ _ _ _ _ _ hr hn H.out).mono ?_; rintro e w' ⟨rfl, rfl⟩; go_wp2
   go_ret
   exact ⟨rfl, rfl⟩
 · have hB := Lib.hid (show blankB l = false by
    unfold blankB; rw [Bool.eq_false_iff]; intro e; exact h (by simpa using e))
   rw [hB.out]; have H := Lib.hid h; clear h; go_enter Tryz.func143, Tryz.ntmps143
   go_wp2_with fail
   refine (index_some _ _ _ _ _ _ hr hn H.out).mono ?_; rintro e w' ⟨i, hi, rfl, rfl⟩; go_wp2
   go_ret
   exact ⟨by simp, rfl⟩
theorem blank_any (P : List Nat) (w : World) (hP : P.length = 32) :
 Calls Tryz.prog 121 #[.agg (nats .u8 P).toArray] w fun e w' => e = .returned (.bool (blankB P)) ∧ Below w.heap.size w w' := by
 have h0 := heap_alloc_new w (.cells (nats .u8 P).toArray 90)
 have hrd := Lib.hid (rd_drop (n := 0) (m := 32) (C := w.heap.size + 1) h0 (by omega) (by omega) (by omega))
 have hbel := (Below.refl _ w).alloc (Nat.le_refl _) (.cells (nats .u8 P).toArray 90)
 rw [List.drop_zero] at hrd
 clear h0
 generalize hB : blankB P = b
 have HB := Lib.hid hB
 clear hB
 go_enter Tryz.func121, Tryz.ntmps121
 go_wp2_with fail
 refine (contains_blank _ _ _ _ _ _ hrd.out (by decide)).mono ?_
 rw [HB.out]
 rintro e w' ⟨rfl, rfl⟩
 go_wp2
 go_ret
 exact ⟨by simp, hbel⟩
end Go.Proofs.YtpbigfopmompfaaGreat
