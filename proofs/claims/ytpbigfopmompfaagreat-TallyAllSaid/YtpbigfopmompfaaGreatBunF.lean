import Derived.Test.YtpbigfopmompfaaGreatBunE
import Derived.Test.YtpbigfopmompfaaGreatOwnRows
/- What a claim's proof leans on: Weave1, Parity. -/
namespace Go.Proofs.YtpbigfopmompfaaGreat
open Go.RowKit
theorem shInfo3 : (Tryz.prog.info? 153).map (fun i => (i.zero, i.size, i.bytes)) = some (some (.agg (shV zero16 0 0 0 0 0 0 0).toArray), 23, 72) := by kernel_rfl
theorem one_shs (l : List Sh) : ∀ r ∈ shs l, ∀ u ∈ r, u.oneCell' = true := by
 intro r hr
 obtain ⟨x, _, rfl⟩ := List.mem_map.1 hr
 exact zbb _ _ _ _ _ _ _ _
theorem cloneSh_some (b o n c B : Nat) (l : List Sh) (w : World) (hr : Rds w B (some ⟨b, o, none⟩) 23 n (shs l)) (hB : B ≤ w.heap.size) (hn : n ≤ 1000) : Calls Tryz.prog 140 #[.slice (some ⟨b, o, none⟩) n c] w fun e w' =>
 ∃ v, e = .returned v ∧ OwnRows w' w.heap.size 153 23 v n (shs l) ∧ Below w.heap.size w w' := by
 have hq := fun W : World => Lib.run_eql_slice_nil (P := Tryz.prog) W 164 153 (some ⟨b, o, none⟩) n c 0 0 Tryz.underlying164
 have hmade : OwnRows (w.alloc (.cells #[] 153)) w.heap.size 153 23 (.slice (some ⟨w.heap.size, 0, none⟩) 0 0) 0 [] := ⟨World.ownsRow_made w #[] 0 (Nat.le_refl _) (by unfold maxLen; omega) rfl, rfl, by simp⟩
 have hbel : Below w.heap.size w (w.alloc (.cells #[] 153)) := (Below.refl _ _).alloc (Nat.le_refl _) _
 have hr2 : Rds (w.alloc (.cells #[] 153)) B (some ⟨b, o, none⟩) 23 n (shs l) := hr.below hbel hB
 go_enter Tryz.func140, Tryz.ntmps140
 go_wp2_with (at_builtin; go_must (refine za9 rfl (.tmp 5) (.tmp 6) 164 rfl 153 _ 23 72 Tryz.underlying164 shInfo3 rfl (by decide) hmade hbel rfl rfl hr2 (one_shs _) (by unfold maxLen; omega) (by omega) (by simp) (Nat.le_refl _) ?_))
 intro v1 w1 hown1 hbel1 _ _
 go_wp2
 go_ret
 exact ⟨_, rfl, by simpa using hown1, hbel1⟩
theorem cloneSh_any (A : Option Addr) (n c B : Nat) (l : List Sh) (w : World) (hr : Rds w B A 23 n (shs l)) (hB : B ≤ w.heap.size) (hn : n ≤ 1000) (hA : ∀ a, A = some a → a.spot = none) : Calls Tryz.prog 140 #[.slice A n c] w fun e w' =>
 ∃ v, e = .returned v ∧ OwnRows w' w.heap.size 153 23 v n (shs l) ∧ Below w.heap.size w w' := by
 cases A with
 | some a =>
  obtain ⟨b, o, s⟩ := a; obtain rfl : s = none := hA _ rfl; exact cloneSh_some b o n c B l w hr hB hn
 | none =>
  have hn0 : n = 0 := by
   rcases Nat.eq_zero_or_pos n with h | h
   · exact h
   · obtain ⟨b, o, e, _⟩ := hr.2.2 h; cases e
  subst hn0; have hl : shs l = [] := List.eq_nil_of_length_eq_zero hr.1; rw [hl]; have hq := fun W : World => Lib.run_eql_slice_nil (P := Tryz.prog) W 164 153 none 0 c 0 0 Tryz.underlying164
  go_enter Tryz.func140, Tryz.ntmps140
  go_wp2
  go_ret
  exact ⟨_, rfl, OwnRows.nil, Below.refl _ _⟩
def Sh.may (x : Sh) : Bool := maySh x.d x.r x.l x.s x.k x.b x.o x.m
def alienB (p x : Sh) : Bool := x.k != 1 || (!x.may || (x.b != p.b || (x.o != p.o || x.m != p.m)))
set_option maxRecDepth 100000 in
set_option maxHeartbeats 4000000 in
theorem back1 (p x : Sh) (g : Nat) (w : World) (hg : w.heap[g]? = some (.cells p.v.toArray 153 (0, 0))) (hp : p.ok) (hx : x.ok) :
 Calls Tryz.prog 139 #[.agg x.v.toArray, .pointer (some ⟨g, 0, none⟩)] w fun e w' => e = .returned (.bool (alienB p x)) ∧ Below w.heap.size w w' := by
 have hG := zam hg (.cells x.v.toArray 153)
 have hX := heap_alloc_new w (.cells x.v.toArray 153)
 have hbel := (Below.refl _ w).alloc (Nat.le_refl _) (.cells x.v.toArray 153)
 have hV := za4 x.d hx.1 x.r x.l x.s x.k x.b x.o x.m
 obtain ⟨x16, x17, x18, x19, x20, x21, x22⟩ := za6 hx.1 hX
 have HG := Lib.hid hG
 have HX := Lib.hid hX
 have HP := Lib.hid hp
 have HXk := Lib.hid hx
 clear hg hG hX hp hx
 by_cases h1 : x.k = 1
 · have t1 : (x.k != 1) = false := by simpa using h1
   cases hM : x.may with
   | false =>
    have E := Lib.hid (show alienB p x = true by unfold alienB; rw [t1, hM]; rfl); rw [E.out]; have HM := Lib.hid (show maySh x.d x.r x.l x.s x.k x.b x.o x.m = false from hM); clear hM h1; go_enter Tryz.func139, Tryz.ntmps139
    go_wp2_with (refine zat 153 (.tmp 2) rfl w.heap.size 0 rfl rfl _ _ (zal HX.out) Tryz.underlying153 rfl hV ?_)
    refine (zbj _ _ _ _ _ _ _ _ _ HXk.out.1 HXk.out.2).mono ?_; rw [HM.out]; rintro e w2 ⟨rfl, hb2⟩; have hbel2 := hbel.trans (hb2.mono hbel.size); clear x16 x17 x18 x19 x20 x21 x22 hb2; go_wp2_with fail
    go_ret
    exact ⟨rfl, hbel2⟩
   | true =>
    have HM := Lib.hid (show maySh x.d x.r x.l x.s x.k x.b x.o x.m = true from hM); clear hM h1; by_cases hb : x.b = p.b
    · have tb : (x.b != p.b) = false := by simpa using hb
      by_cases ho : x.o = p.o
      · have tr : (x.o != p.o) = false := by simpa using ho
        by_cases hm : x.m = p.m
        · have tm : (x.m != p.m) = false := by simpa using hm
          have E := Lib.hid (show alienB p x = false by unfold alienB; rw [t1, tb, tr, tm, show x.may = true from HM.out]; rfl); rw [E.out]; clear hb ho hm; go_enter Tryz.func139, Tryz.ntmps139
          go_wp2_with (refine zat 153 (.tmp 2) rfl w.heap.size 0 rfl rfl _ _ (zal HX.out) Tryz.underlying153 rfl hV ?_)
          refine (zbj _ _ _ _ _ _ _ _ _ HXk.out.1 HXk.out.2).mono ?_; rw [HM.out]; rintro e w2 ⟨rfl, hb2⟩; have hbel2 := hbel.trans (hb2.mono hbel.size); clear x16 x17 x18 x19 x20 x21 x22; obtain ⟨x16, x17, x18, x19, x20, x21, x22⟩ := za6 HXk.out.1 (zad HX.out hb2); obtain ⟨p16, p17, p18, p19, p20, p21, p22⟩ := za6 HP.out.1 (zad HG.out hb2); clear hb2; go_wp2_with fail
          go_ret
          exact ⟨rfl, hbel2⟩
        · have tm : (x.m != p.m) = true := by simpa using hm
          have E := Lib.hid (show alienB p x = true by unfold alienB; rw [t1, tb, tr, tm, show x.may = true from HM.out]; rfl); rw [E.out]; clear hb ho hm; go_enter Tryz.func139, Tryz.ntmps139
          go_wp2_with (refine zat 153 (.tmp 2) rfl w.heap.size 0 rfl rfl _ _ (zal HX.out) Tryz.underlying153 rfl hV ?_)
          refine (zbj _ _ _ _ _ _ _ _ _ HXk.out.1 HXk.out.2).mono ?_; rw [HM.out]; rintro e w2 ⟨rfl, hb2⟩; have hbel2 := hbel.trans (hb2.mono hbel.size); clear x16 x17 x18 x19 x20 x21 x22; obtain ⟨x16, x17, x18, x19, x20, x21, x22⟩ := za6 HXk.out.1 (zad HX.out hb2); obtain ⟨p16, p17, p18, p19, p20, p21, p22⟩ := za6 HP.out.1 (zad HG.out hb2); clear hb2; go_wp2_with fail
          go_ret
          exact ⟨rfl, hbel2⟩
      · have tr : (x.o != p.o) = true := by simpa using ho
        have E := Lib.hid (show alienB p x = true by unfold alienB; rw [t1, tb, tr, show x.may = true from HM.out]; rfl); rw [E.out]; clear hb ho; go_enter Tryz.func139, Tryz.ntmps139
        go_wp2_with (refine zat 153 (.tmp 2) rfl w.heap.size 0 rfl rfl _ _ (zal HX.out) Tryz.underlying153 rfl hV ?_)
        refine (zbj _ _ _ _ _ _ _ _ _ HXk.out.1 HXk.out.2).mono ?_; rw [HM.out]; rintro e w2 ⟨rfl, hb2⟩; have hbel2 := hbel.trans (hb2.mono hbel.size); clear x16 x17 x18 x19 x20 x21 x22; obtain ⟨x16, x17, x18, x19, x20, x21, x22⟩ := za6 HXk.out.1 (zad HX.out hb2); obtain ⟨p16, p17, p18, p19, p20, p21, p22⟩ := za6 HP.out.1 (zad HG.out hb2); clear hb2; go_wp2_with fail
        go_ret
        exact ⟨rfl, hbel2⟩
    · have tb : (x.b != p.b) = true := by simpa using hb
      have E := Lib.hid (show alienB p x = true by unfold alienB; rw [t1, tb, show x.may = true from HM.out]; rfl); rw [E.out]; clear hb; go_enter Tryz.func139, Tryz.ntmps139
      go_wp2_with (refine zat 153 (.tmp 2) rfl w.heap.size 0 rfl rfl _ _ (zal HX.out) Tryz.underlying153 rfl hV ?_)
      refine (zbj _ _ _ _ _ _ _ _ _ HXk.out.1 HXk.out.2).mono ?_; rw [HM.out]; rintro e w2 ⟨rfl, hb2⟩; have hbel2 := hbel.trans (hb2.mono hbel.size); clear x16 x17 x18 x19 x20 x21 x22; obtain ⟨x16, x17, x18, x19, x20, x21, x22⟩ := za6 HXk.out.1 (zad HX.out hb2); obtain ⟨p16, p17, p18, p19, p20, p21, p22⟩ := za6 HP.out.1 (zad HG.out hb2); clear hb2; go_wp2_with fail
      go_ret
      exact ⟨rfl, hbel2⟩
 · have t1 : (x.k != 1) = true := by simpa using h1
   have E := Lib.hid (show alienB p x = true by unfold alienB; rw [t1]; rfl); rw [E.out]; clear h1; go_enter Tryz.func139, Tryz.ntmps139
   go_wp2_with fail
   go_ret
   exact ⟨rfl, hbel⟩
def AnIdx (no : Bool) (w : World) (e : Ending) (w' : World) : Prop := ∃ i : Int, e = .returned (.int .i64 i) ∧ decide (0 ≤ i) = no ∧ Below w.heap.size w w'
theorem indexSh (p : Sh) (g : Nat) (A : Option Addr) (n c B : Nat) (l : List Sh) (w : World) (hg : w.heap[g]? = some (.cells p.v.toArray 153 (0, 0))) (hp : p.ok) (hr : Rds w B A 23 n (shs l)) (hB : B ≤ w.heap.size) (hok : ∀ x ∈ l, x.ok) (hn : n ≤ 1000) :
 Calls Tryz.prog 168 #[.slice A n c, .func (.func 139) #[] #[.pointer (some ⟨g, 0, none⟩)]] w (AnIdx (l.any (alienB p)) w) := by
 have hl : l.length = n := by have := hr.1; rwa [shs, List.length_map] at this
 have HL := Lib.hid hl
 have HG := Lib.hid hg
 clear hl hg
 go_enter Tryz.func168, Tryz.ntmps168
 go_wp2
 go_loopw [8] (fun i wr => ∃ k : Nat, k ≤ n ∧ i = .int .i64 k ∧ (l.take k).any (alienB p) = false ∧ Below w.heap.size w wr) (fun i _ => n - (intOf i).toNat)
 case atStart => exact ⟨0, by omega, rfl, rfl, Below.refl _ _⟩
 case round =>
  obtain ⟨k, hk, rfl, hall, hbel⟩ := hrel; have HA := Lib.hid hall; clear hall; by_cases hlt : k < n
  · have hkl : k < l.length := by rw [HL.out]; exact hlt
    obtain ⟨x, hx⟩ : ∃ x, l[k]? = some x := ⟨_, List.getElem?_eq_getElem hkl⟩; have hxk := hok x (List.mem_of_getElem? hx); have hr' := hr.below hbel hB; obtain ⟨b, o, rfl, hb, hR⟩ := za8 hr' hlt (r := x.v) (by rw [shs, List.getElem?_map, hx]; rfl); have HT := Lib.hid (show l.take (k + 1) = l.take k ++ [x] by rw [List.take_succ_eq_append_getElem hkl]; rw [List.getElem?_eq_getElem hkl] at hx; rw [Option.some.inj hx]); have HM := Lib.hid (List.mem_of_getElem? hx); have hV := za4 x.d hxk.1 x.r x.l x.s x.k x.b x.o x.m; have hg' := zad HG.out hbel; have HGr := Lib.hid hg'; have HXk := Lib.hid hxk; have hlt2 : (k : Int) < (n : Int) := by omega
    clear hx hg' hxk hr hr'; go_wp2_with (refine wpList_load_mid rfl 153 (.tmp 14) rfl b (o + k * 23) rfl _ _ hR Tryz.underlying153 rfl hV ?_)
    refine (back1 p x g _ HGr.out hp HXk.out).mono ?_; cases ha : alienB p x with
    | true =>
     have HAl := Lib.hid (show l.any (alienB p) = true by rw [List.any_eq_true]; exact ⟨x, HM.out, ha⟩); clear ha; rintro e w2 ⟨rfl, hb2⟩; have hbel2 := hbel.trans (hb2.mono hbel.size); clear hb2 hR; go_wp2_with fail
     go_ret
     exact ⟨(k : Int), rfl, by rw [HAl.out]; simp, hbel2⟩
    | false =>
     have HAl := Lib.hid (show (l.take (k + 1)).any (alienB p) = false by rw [HT.out, List.any_append, HA.out]; simp [ha]); clear ha; rintro e w2 ⟨rfl, hb2⟩; have hbel2 := hbel.trans (hb2.mono hbel.size); clear hb2 hR; go_wp2_with fail
     go_roundw
     case rel => exact ⟨k + 1, by omega, by go_num, HAl.out, hbel2⟩
     case measure => simp [intOf]; omega
  · obtain rfl : k = n := by omega
    have HAl := Lib.hid (show l.any (alienB p) = false by have := HA.out; rwa [List.take_of_length_le (by rw [HL.out]; exact Nat.le_refl _)] at this); go_wp2
    go_ret
    exact ⟨-1, rfl, by rw [HAl.out]; rfl, hbel⟩
def anyAlien (p : Sh) (l : List Sh) : Bool := l.any (alienB p)
theorem containsSh (p : Sh) (g : Nat) (A : Option Addr) (n c B : Nat) (l : List Sh) (w : World) (hg : w.heap[g]? = some (.cells p.v.toArray 153 (0, 0))) (hp : p.ok) (hr : Rds w B A 23 n (shs l)) (hB : B ≤ w.heap.size) (hok : ∀ x ∈ l, x.ok) (hn : n ≤ 1000) :
 Calls Tryz.prog 138 #[.slice A n c, .func (.func 139) #[] #[.pointer (some ⟨g, 0, none⟩)]] w fun e w' => e = .returned (.bool (anyAlien p l)) ∧ Below w.heap.size w w' := by
 unfold anyAlien
 have C := Lib.hid (indexSh p g A n c B l w hg hp hr hB hok hn)
 clear hg hr hok
 go_enter Tryz.func138, Tryz.ntmps138
 go_wp2_with fail
 refine C.out.mono ?_
 rintro e w' ⟨i, rfl, hi, hb⟩
 have HI := Lib.hid hi
 clear hi
 go_wp2_with fail
 go_ret
 exact ⟨by rw [← HI.out]; rfl, hb⟩
end Go.Proofs.YtpbigfopmompfaaGreat
namespace Go.Proofs.YtpbigfopmompfaaGreat
open Go.RowKit
structure En where
 l : Int
 s : Int
 r : Int
 d : List Nat
def En.v (x : En) : List Value := enV x.l x.s x.r x.d
def En.ok (x : En) : Prop := x.d.length = 16 ∧ ∀ y ∈ x.d, y < 256
def ens (l : List En) : List (List Value) := l.map En.v
def En.sh (x : En) (b o m : Int) : Sh := ⟨x.d, x.r, x.l, x.s, 1, b, o, m⟩
def En.may (x : En) (b o m : Int) : Bool := maySh x.d x.r x.l x.s 1 b o m
def owns (l : List En) (b o m : Int) : List Sh := l.map fun x => x.sh b o m
theorem owns_ok {l : List En} (h : ∀ x ∈ l, x.ok) (b o m : Int) : ∀ y ∈ owns l b o m, y.ok := by
 intro y hy
 obtain ⟨x, hx, rfl⟩ := List.mem_map.1 hy
 exact h x hx
def parSh (l : List En) (b o m : Int) : Sh := ⟨overD (owns l b o m), roleI (overM (owns l b o m)), lpnI (overM (owns l b o m)), seqI (overM (owns l b o m)), 2, b, o, m⟩
def parB (l : List En) (b o m : Int) : Bool := ((l.length : Int) == slotsI m) && (l.length != 0 && l.all fun x => x.may b o m)
def zeroV : List Value := shV zero16 0 0 0 0 0 0 0
def parV (l : List En) (b o m : Int) : List Value := if parB l b o m then (parSh l b o m).v else zeroV
theorem zbv {d : List Nat} (h : d.length = 16) (l s r : Int) : (Tryz.prog.info? 29).map (·.size) = some (enV l s r d).length := by rw [enV_length h]; kernel_rfl
theorem one_enV (l s r : Int) (d : List Nat) : ∀ v ∈ enV l s r d, v.oneCell' = true := by
 intro v hv
 rcases List.mem_append.1 hv with h | h
 · simp at h
   rcases h with rfl | rfl | rfl <;> rfl
 · exact za1 _ _ v h
theorem built_par (b o m : Int) : Tryz.prog.built 153 [(4, .int .i64 2), (5, .int .i64 b), (6, .int .i64 o), (7, .int .i64 m)] = some (shV zero16 0 0 0 2 b o m).toArray := by kernel_rfl
theorem splice_shd {d : List Nat} (h : d.length = 16) (r l s k b o m : Int) {e : List Nat} (he : e.length = 16) : splice (shV e r l s k b o m) 0 (nats .u8 d) = shV d r l s k b o m := by
 obtain ⟨d0, d1, d2, d3, d4, d5, d6, d7, d8, d9, d10, d11, d12, d13, d14, d15, rfl⟩ := split16 h
 obtain ⟨e0, e1, e2, e3, e4, e5, e6, e7, e8, e9, e10, e11, e12, e13, e14, e15, rfl⟩ := split16 he
 rfl
theorem OwnRows.ne {w : World} {base C n : Nat} {e : TypeId} {v : Value} {rows : List (List Value)} (h : OwnRows w base e C v n rows) {g : Nat} (hg : g < base) : v.ownBlock ≠ some g := by
 intro hv
 have := (h.1.lt g hv).1
 omega
theorem OwnRows.fresh {w : World} {base C n : Nat} {e : TypeId} {v : Value} {rows : List (List Value)} (h : OwnRows w base e C v n rows) : v.ownBlock ≠ some w.heap.size := by
 intro hv
 have := (h.1.lt _ hv).2
 omega
theorem rds_sh {w : World} {g : Nat} {x : Sh} {t : TypeId} {fr : Nat × Nat} (hx : x.ok) (h : w.heap[g]? = some (.cells x.v.toArray t fr)) : Rds w w.heap.size (some ⟨g, 0, none⟩) 23 1 (shs [x]) := by
 have := rds_one h
 rwa [show x.v.length = 23 from zba hx.1 _ _ _ _ _ _ _] at this
set_option maxRecDepth 100000 in
set_option maxHeartbeats 4000000 in
theorem parity_sh (b o m : Int) (l : List En) (A : Option Addr) (n c B : Nat) (w : World) (hr : Rds w B A 19 n (ens l)) (hB : B ≤ w.heap.size) (hok : ∀ x ∈ l, x.ok) (hn : n ≤ 4611686018427387904) :
 Calls Tryz.prog 114 #[.int .i64 b, .int .i64 o, .int .i64 m, .slice A n c] w fun e w' => e = .returned (.tuple #[.agg (parV l b o m).toArray, .bool (parB l b o m)]) ∧ Below w.heap.size w w' := by
 have hl : l.length = n := by have := hr.1; rwa [ens, List.length_map] at this
 by_cases hc : (n : Int) = slotsI m ∧ n ≠ 0
 · obtain ⟨hs, h0⟩ := hc
   have hs7 : slotsI m ≤ 7 := by have := countI_le m; unfold slotsI; split <;> omega
   have t1 : ((n : Int) != slotsI m) = false := by simpa using hs
   have t2 : ((n : Int) == 0) = false := by simp; omega
   have HL := Lib.hid hl; have HS0 := Lib.hid hs; have H00 := Lib.hid h0; have hn7 : n ≤ 7 := by omega
   clear hs h0 hl hs7; go_enter Tryz.func114, Tryz.ntmps114
   go_wp2_with (go_at_call 68; refine (slots_any _ _).mono ?_; rintro e w' ⟨rfl, rfl⟩)
   go_loopw [10, 31] (fun v i wr => ∃ k : Nat, k ≤ n ∧ i = .int .i64 k ∧ OwnRows wr (w.heap.size + 1) 153 23 v k (shs (owns (l.take k) b o m)) ∧ ((l.take k).all fun x => x.may b o m) = true ∧ wr.heap[w.heap.size]? = some (.cells zeroV.toArray 153 (0, 0)) ∧ Below w.heap.size w wr) (fun _ i _ => n - (intOf i).toNat)
   case atStart => exact ⟨0, by omega, rfl, OwnRows.nil, rfl, zak w _ _ rfl, (Below.refl _ w).alloc (Nat.le_refl _) _⟩
   case round =>
    obtain ⟨k, hk, rfl, hown, hall, h0, hbel⟩ := hrel; have HA := Lib.hid hall; clear hall; by_cases hlt : k < n
    · have hkl : k < l.length := by rw [HL.out]; exact hlt
      obtain ⟨x, hx⟩ : ∃ x, l[k]? = some x := ⟨_, List.getElem?_eq_getElem hkl⟩; have hxk := hok x (List.mem_of_getElem? hx); have hr' := hr.below hbel hB; obtain ⟨bb, oo, rfl, hbb, hR⟩ := za8 hr' hlt (r := x.v) (by rw [ens, List.getElem?_map, hx]; rfl); have HT := Lib.hid (show l.take (k + 1) = l.take k ++ [x] by rw [List.take_succ_eq_append_getElem hkl]; rw [List.getElem?_eq_getElem hkl] at hx; rw [Option.some.inj hx]); have HM := Lib.hid (List.mem_of_getElem? hx); have hE := zbv hxk.1 x.l x.s x.r; have hEl := Lib.hid (enV_length hxk.1 x.l x.s x.r); have hV := za4 x.d hxk.1 x.r x.l x.s 1 b o m; have hVl := Lib.hid (zba hxk.1 x.r x.l x.s 1 b o m); have hlt2 : (k : Int) < (n : Int) := by omega
      have hsz := hbel.size; have ne0 : w.heap.size ≠ wr.heap.size := by have := zag h0; omega
      have HXk := Lib.hid hxk; clear hx hr' hxk; obtain ⟨wo, hwo⟩ : ∃ wo : World, wo = wr := ⟨_, rfl⟩; subst hwo; cases hM : x.may b o m with
      | false =>
       have E1 := Lib.hid (show parB l b o m = false by
        unfold parB; have : (l.all fun x => x.may b o m) = false := by rw [Bool.eq_false_iff]; intro h; have := List.all_eq_true.1 h x HM.out; rw [hM] at this; cases this
        rw [this]; simp)
       have E2 := Lib.hid (show parV l b o m = zeroV by unfold parV; rw [E1.out]; rfl); have HMy := Lib.hid (show maySh x.d x.r x.l x.s 1 b o m = false from hM); have HO := Lib.hid (show ownV x.d x.r x.l x.s b o m = zeroV by unfold ownV; rw [HMy.out]; rfl); clear hM; go_wp2_with (first | (refine wpList_load_mid rfl 29 (.tmp 33) rfl bb (oo + k * 19) rfl _ _ hR Tryz.underlying29 rfl hE ?_) | (refine zai rfl 29 (.tmp 12) (.tmp 34) rfl wo.heap.size x.v rfl rfl 29 _ (zak wo _ _ rfl) hE (by rw [En.v, hEl.out]; rfl) (one_enV _ _ _ _) ?_; intro w2 hU2; have hE2 := hU2.at_; have h02 := hU2.old (zam h0 _) ne0; have hown2 := (hown.alloc _).upd hU2 hown.fresh; have hbel2 := hU2.below (hbel.alloc hsz _) hsz) | (refine wpList_load_mid rfl 29 (.tmp 12) rfl wo.heap.size 0 rfl _ _ (zal hE2) Tryz.underlying29 rfl hE ?_))
       refine (own_sherd b o m x.l x.s x.r x.d _ HXk.out.1 HXk.out.2).mono ?_; rw [HMy.out, HO.out]; rintro e w3 ⟨rfl, hb3⟩; have h03 := zad h02 hb3; have hbel3 := hbel2.trans (hb3.mono hbel2.size); have ne3 : w.heap.size ≠ w3.heap.size := by have := zag h03; omega
       clear h02 hbel2 hb3 hown2 hE2 hU2; go_wp2_with (first | (refine zai rfl 153 (.tmp 13) (.tmp 41) rfl w3.heap.size zeroV rfl rfl 153 _ (zak w3 _ _ rfl) (za4 _ rfl _ _ _ _ _ _ _) rfl (zbb _ _ _ _ _ _ _ _) ?_; intro w4 hU4; have h04 := hU4.old (zam h03 _) ne3; have hbel4 := hU4.below (hbel3.alloc hbel3.size _) hbel3.size) | (refine zao rfl 153 _ rfl _ rfl _ built_zero ?_) | (refine zai rfl 153 (.tmp 8) (.tmp 45) rfl w.heap.size zeroV rfl rfl 153 _ h04 (za4 _ rfl _ _ _ _ _ _ _) rfl (zbb _ _ _ _ _ _ _ _) ?_; intro w6 hU6))
       refine bodyPost_ret (v := .tuple #[.agg zeroV.toArray, .bool false]) ?_ rfl ⟨by rw [E1.out, E2.out], hU6.below hbel4 (by omega)⟩; rw [zav rfl _ _ _ _ _ _ _ rfl hU6.at_ Tryz.underlying153 rfl (za4 _ rfl _ _ _ _ _ _ _)]; rfl
      | true =>
       have HAl := Lib.hid (show ((l.take (k + 1)).all fun x => x.may b o m) = true by rw [HT.out, List.all_append, HA.out]; simp [hM]); have HMy := Lib.hid (show maySh x.d x.r x.l x.s 1 b o m = true from hM); have HO := Lib.hid (show ownV x.d x.r x.l x.s b o m = (x.sh b o m).v by unfold ownV; rw [HMy.out]; rfl); have HW := Lib.hid (show shs (owns (l.take k) b o m) ++ shs [x.sh b o m] = shs (owns (l.take (k + 1)) b o m) by rw [HT.out]; simp [shs, owns]); clear hM; go_wp2_with (first | (refine wpList_load_mid rfl 29 (.tmp 33) rfl bb (oo + k * 19) rfl _ _ hR Tryz.underlying29 rfl hE ?_) | (refine zai rfl 29 (.tmp 12) (.tmp 34) rfl wo.heap.size x.v rfl rfl 29 _ (zak wo _ _ rfl) hE (by rw [En.v, hEl.out]; rfl) (one_enV _ _ _ _) ?_; intro w2 hU2; have hE2 := hU2.at_; have h02 := hU2.old (zam h0 _) ne0; have hown2 := (hown.alloc _).upd hU2 hown.fresh; have hbel2 := hU2.below (hbel.alloc hsz _) hsz) | (refine wpList_load_mid rfl 29 (.tmp 12) rfl wo.heap.size 0 rfl _ _ (zal hE2) Tryz.underlying29 rfl hE ?_))
       refine (own_sherd b o m x.l x.s x.r x.d _ HXk.out.1 HXk.out.2).mono ?_; rw [HMy.out, HO.out]; rintro e w3 ⟨rfl, hb3⟩; have h03 := zad h02 hb3; have hbel3 := hbel2.trans (hb3.mono hbel2.size); have ne3 : w.heap.size ≠ w3.heap.size := by have := zag h03; omega
       have hown3 := hown2.below hb3; have s3 : w.heap.size + 1 ≤ w3.heap.size := by have := zag h03; omega
       clear h02 hbel2 hb3 hown2 hE2 hU2
       go_wp2_with (first | (refine zai rfl 153 (.tmp 13) (.tmp 41) rfl w3.heap.size (x.sh b o m).v rfl rfl 153 _ (zak w3 _ _ rfl) hV (by rw [Sh.v, En.sh, hVl.out]; rfl) (zbb _ _ _ _ _ _ _ _) ?_; intro w4 hU4; have hS4 := hU4.at_; have h04 := hU4.old (zam h03 _) ne3; have hown4 := (hown3.alloc _).upd hU4 hown3.fresh; have hbel4 := hU4.below (hbel3.alloc hbel3.size _) hbel3.size; have hz4 := hU4.size; have s4 : w.heap.size + 1 ≤ w4.heap.size := by (rw [hz4]; simp; omega)) | (refine wpList_load_mid rfl 153 (.tmp 13) rfl w3.heap.size 0 rfl _ _ (zal hS4) Tryz.underlying153 rfl hV ?_) | (refine wpList_buildOne rfl 164 (.tmp 47) rfl 153 (x.sh b o m).v _ 23 72 rfl Tryz.underlying164 shInfo3 hVl.out (by decide) (by decide) ?_) |
        (at_builtin; go_must (refine za9 rfl (.tmp 46) (.tmp 48) 164 rfl 153 _ 23 72 Tryz.underlying164 shInfo3 rfl (by decide) (hown4.alloc _) (hbel4.alloc hbel4.size _) rfl rfl (rds_sh (x := x.sh b o m) HXk.out (zak w4 _ _ rfl)) (one_shs _) (by unfold maxLen; omega) (by omega) (by simp; omega) (by omega) ?_; intro v5 w5 hown5 hbel5 hgr5 hat5)))
       have h05 := zbw (zam h04 _) hgr5 (fun e => hown4.ne (Nat.lt_succ_self _) e.symm); rw [HW.out] at hown5; clear hgr5 hat5 hown4 h04 hS4 hU4; go_roundw
       case rel => exact ⟨k + 1, by omega, by go_num, hown5, HAl.out, h05, hbel5⟩
       case measure => simp [intOf]; omega
    · obtain rfl : k = n := by omega
      have hfull : l.take k = l := List.take_of_length_le (by rw [HL.out]; exact Nat.le_refl _); rw [hfull] at hown; have HAl := HA.out; rw [hfull] at HAl; have E1 := Lib.hid (show parB l b o m = true by unfold parB; rw [HL.out, HAl, HS0.out]; simp; exact H00.out); have E2 := Lib.hid (show parV l b o m = (parSh l b o m).v by unfold parV; rw [E1.out]; rfl); have hoks := owns_ok hok b o m; have hD16 := zb2 fun y hy => (hoks y hy).1
      have hMlt := overM_lt (owns l b o m); have HRes := Lib.hid (show (parSh l b o m).v = shV (overD (owns l b o m)) (roleI (overM (owns l b o m))) (lpnI (overM (owns l b o m))) (seqI (overM (owns l b o m))) 2 b o m from rfl); have HOk := Lib.hid hoks; generalize owns l b o m = L at *; have HD := Lib.hid hD16; have hDV : (Tryz.prog.info? 27).map (·.size) = some (nats .u8 (overD L)).length := by rw [zaj, hD16]; kernel_rfl
      have hDl := Lib.hid (show (nats .u8 (overD L)).length = 16 by rw [zaj, hD16]); obtain ⟨A10, c10, rfl, -, -⟩ := hown.slice; have hrd := hown.rds; have ne0 : w.heap.size ≠ wr.heap.size := by have := zag h0; omega
      have hsz := hbel.size; obtain ⟨wo, hwo⟩ : ∃ wo : World, wo = wr := ⟨_, rfl⟩; subst hwo; clear hfull HAl HA hown hoks hD16 hr; go_wp2_with (first | (refine zao rfl 153 _ rfl _ rfl _ (built_par b o m) ?_) | (refine zai rfl 153 (.tmp 15) (.tmp 54) rfl wo.heap.size (shV zero16 0 0 0 2 b o m) rfl rfl 153 _ (zak wo _ _ rfl) (za4 _ rfl _ _ _ _ _ _ _) rfl (zbb _ _ _ _ _ _ _ _) ?_; intro w2 hU2; have h15 := hU2.at_; have h02 := hU2.old (zam h0 _) ne0; have hrd2 := (hrd.below ((Below.refl _ wo).alloc (Nat.le_refl _) _) (Nat.le_refl _)).upd hU2 (Nat.le_refl _); have hbel2 := hU2.below (hbel.alloc hsz _) hsz; have hz2 := hU2.size))
      refine (over_any _ _ _ _ _ _ hrd2 (by rw [hz2]; simp) HOk.out (by omega)).mono ?_; rintro e w3 ⟨rfl, hb3⟩; have h153 := zad h15 hb3; have h03 := zad h02 hb3; have hbel3 := hbel2.trans (hb3.mono hbel2.size); have ne3 : w.heap.size ≠ w3.heap.size := by have := zag h03; omega
      have ne15 : wo.heap.size ≠ w3.heap.size := by have := zag h153; omega
      clear h15 h02 hrd2 hbel2 hz2 hU2 hb3 hrd
      go_wp2_with (first | (refine zai rfl 27 (.tmp 16) (.tmp 58) rfl w3.heap.size (nats .u8 (overD L)) rfl rfl 27 _ (zak w3 _ _ rfl) hDV (by rw [hDl.out]; rfl) (za1 _ _) ?_; intro w4 hU4; have h16 := hU4.at_; have h154 := hU4.old (zam h153 _) ne15; have h04 := hU4.old (zam h03 _) ne3; have hbel4 := hU4.below (hbel3.alloc hbel3.size _) hbel3.size) | (refine wpList_load_mid rfl 27 (.tmp 16) rfl w3.heap.size 0 rfl _ _ (zal h16) Tryz.underlying27 rfl hDV ?_) |
       (refine wpList_put_mid rfl 27 (.tmp 61) (.tmp 60) rfl wo.heap.size 0 (nats .u8 (overD L)) rfl rfl 153 _ h154 hDV (by rw [hDl.out, zba (show zero16.length = 16 from rfl)]; decide) (za1 _ _) ?_; intro w5 hU5; have h155 := hU5.at_; rw [splice_shd HD.out _ _ _ _ _ _ _ rfl] at h155; have h05 := hU5.old h04 ne0; have hbel5 := hU5.below hbel4 hsz))
      refine (of_sherd (overM L : Int) _ (by omega) (by omega)).mono ?_; rintro e w' ⟨rfl, rfl⟩; have f16 := zar h155 16; have f17 := zar h155 17; have f18 := zar h155 18; obtain ⟨c16, c17, c18, -⟩ := za6 HD.out h155; have U1 := zas (i := 16) h155 (.int .i64 (roleI (overM L : Int))); have U2 := zas (i := 17) U1.at_ (.int .i64 (lpnI (overM L : Int))); have U3 := zas (i := 18) U2.at_ (.int .i64 (seqI (overM L : Int))); have h156 := U3.at_; rw [(sh_sets HD.out _ _ _ _ _ _ _ _).1, (sh_sets HD.out _ _ _ _ _ _ _ _).2.1, (sh_sets HD.out _ _ _ _ _ _ _ _).2.2.1] at h156; have HF := Lib.hid (And.intro h156 (And.intro (U3.old (U2.old (U1.old h05 ne0) ne0) ne0) (U3.below (U2.below (U1.below hbel5 hsz) hsz) hsz))); clear U1 U2 U3 h156 h155 h05 hbel5 hU5 h154 h04 hbel4 hU4 h16 h153 h03 hbel3; have hV := za4 (overD L) HD.out (roleI (overM L : Int)) (lpnI (overM L : Int)) (seqI (overM L : Int)) 2 b o m; have hVl := Lib.hid (zba HD.out (roleI (overM L : Int)) (lpnI (overM L : Int)) (seqI (overM L : Int)) 2 b o m); go_upto_region 16 with fail
      generalize ((w5.setCell ⟨wo.heap.size, 16, none⟩ (.int .i64 (roleI (overM L : Int)))).setCell ⟨wo.heap.size, 17, none⟩ (.int .i64 (lpnI (overM L : Int)))).setCell ⟨wo.heap.size, 18, none⟩ (.int .i64 (seqI (overM L : Int))) = w6 at *; obtain ⟨h6, h06, hbel6⟩ := HF.out; go_wp2_with (first | (refine wpList_load_mid rfl 153 (.tmp 15) rfl wo.heap.size 0 rfl _ _ (zal h6) Tryz.underlying153 rfl hV ?_) | (refine zai rfl 153 (.tmp 8) (.tmp 71) rfl w.heap.size _ rfl rfl 153 _ h06 hV (by rw [hVl.out]; rfl) (zbb _ _ _ _ _ _ _ _) ?_; intro w7 hU7))
      refine bodyPost_ret (v := .tuple #[.agg (shV (overD L) (roleI (overM L : Int)) (lpnI (overM L : Int)) (seqI (overM L : Int)) 2 b o m).toArray, .bool true]) ?_ rfl ⟨by rw [E1.out, E2.out, HRes.out], hU7.below hbel6 (by omega)⟩; rw [zav rfl _ _ _ _ _ _ _ rfl hU7.at_ Tryz.underlying153 rfl hV]; rfl
 · have E1 : parB l b o m = false := by
    unfold parB; rw [hl]; by_cases h1 : (n : Int) = slotsI m
    · have : n = 0 := by
       rcases Nat.eq_zero_or_pos n with h | h
       · exact h
       · exact absurd ⟨h1, by omega⟩ hc
      simp [this]
    · simp [h1]
   have E2 : parV l b o m = zeroV := by unfold parV; rw [E1]; rfl
   rw [E1, E2]; have HS := Lib.hid hc; by_cases h1 : (n : Int) = slotsI m
   · have t1 : ((n : Int) != slotsI m) = false := by simpa using h1
     have h0 : n = 0 := by
      rcases Nat.eq_zero_or_pos n with h | h
      · exact h
      · exact absurd ⟨h1, by omega⟩ hc
     have t2 : ((n : Int) == 0) = true := by simp [h0]
     clear h1 hc E1 E2 hl HS; clear h0; go_enter Tryz.func114, Tryz.ntmps114
     go_wp2_with (first | (go_at_call 68; refine (slots_any _ _).mono ?_; rintro e w' ⟨rfl, rfl⟩) | (refine zao rfl 153 _ rfl _ rfl _ built_zero ?_) | (refine zai rfl 153 (.tmp 8) (.tmp 28) rfl w.heap.size zeroV rfl rfl 153 _ (zak w _ _ rfl) (za4 _ rfl _ _ _ _ _ _ _) rfl (zbb _ _ _ _ _ _ _ _) ?_; intro w6 hU6))
     refine bodyPost_ret (v := .tuple #[.agg zeroV.toArray, .bool false]) ?_ rfl ⟨rfl, hU6.below ((Below.refl _ w).alloc (Nat.le_refl _) _) (by omega)⟩; rw [zav rfl _ _ _ _ _ _ _ rfl hU6.at_ Tryz.underlying153 rfl (za4 _ rfl _ _ _ _ _ _ _)]; rfl
   · have t1 : ((n : Int) != slotsI m) = true := by simpa using h1
     clear h1 hc E1 E2 hl HS; go_enter Tryz.func114, Tryz.ntmps114
     go_wp2_with (first | (go_at_call 68; refine (slots_any _ _).mono ?_; rintro e w' ⟨rfl, rfl⟩) | (refine zao rfl 153 _ rfl _ rfl _ built_zero ?_) | (refine zai rfl 153 (.tmp 8) (.tmp 28) rfl w.heap.size zeroV rfl rfl 153 _ (zak w _ _ rfl) (za4 _ rfl _ _ _ _ _ _ _) rfl (zbb _ _ _ _ _ _ _ _) ?_; intro w6 hU6))
     refine bodyPost_ret (v := .tuple #[.agg zeroV.toArray, .bool false]) ?_ rfl ⟨rfl, hU6.below ((Below.refl _ w).alloc (Nat.le_refl _) _) (by omega)⟩; rw [zav rfl _ _ _ _ _ _ _ rfl hU6.at_ Tryz.underlying153 rfl (za4 _ rfl _ _ _ _ _ _ _)]; rfl
end Go.Proofs.YtpbigfopmompfaaGreat
