import Derived.Test.YtpbigfopmompfaaGreatBunK
import Derived.Test.YtpbigfopmompfaaGreatBunJ
/- What a claim's proof leans on: NandFault, NandAct. -/
namespace Go.Proofs.YtpbigfopmompfaaGreat.nand
open Go.RowKit
set_option linter.unusedVariables false
def Flt.wf (f : Flt) : Prop := Lit.wf (.int .i64 f.at_) ∧ Lit.wf (.int .i64 f.k) ∧ f.a.wf ∧ Lit.wf (.int .i64 f.n) ∧ Lit.wf (.int .i64 f.x)
section
variable {w : World} {k : Nat} {f : Flt} {t : TypeId} {fr : Nat × Nat}
theorem flt_addr (h : w.heap[k]? = some (.cells f.v.toArray t fr)) : w.rangeAt k 2 f.a.v := zbo h [.int .i64 f.at_, .int .i64 f.k] f.a.v [.int .i64 f.n, .int .i64 f.x] rfl 2 rfl
theorem flt_c1 (h : w.heap[k]? = some (.cells f.v.toArray t fr)) : w.cell? ⟨k, 1, none⟩ = some (.int .i64 f.k) := by rw [zaf h]; rfl
theorem flt_c2 (h : w.heap[k]? = some (.cells f.v.toArray t fr)) : w.cell? ⟨k, 2, none⟩ = some (.int .i64 f.d) := by rw [zaf h]; rfl
theorem flt_c3 (h : w.heap[k]? = some (.cells f.v.toArray t fr)) : w.cell? ⟨k, 3, none⟩ = some (.int .i64 f.b) := by rw [zaf h]; rfl
theorem flt_c4 (h : w.heap[k]? = some (.cells f.v.toArray t fr)) : w.cell? ⟨k, 4, none⟩ = some (.int .i64 f.p) := by rw [zaf h]; rfl
theorem flt_c5 (h : w.heap[k]? = some (.cells f.v.toArray t fr)) : w.cell? ⟨k, 5, none⟩ = some (.int .i64 f.n) := by rw [zaf h]; rfl
theorem flt_c6 (h : w.heap[k]? = some (.cells f.v.toArray t fr)) : w.cell? ⟨k, 6, none⟩ = some (.int .i64 f.x) := by rw [zaf h]; rfl
end
theorem mem_putF {f : List (Ad × Value)} {a : Ad} {v : Value} {p : Ad × Value} (h : p ∈ putF f a v) : p = (a, v) ∨ p ∈ f := by
 unfold putF at h
 rcases List.mem_cons.1 h with h | h
 · exact .inl h
 · exact .inr (zbh.1 h).1
theorem own_set1 {w : World} {base n c gd i : Nat} {e : TypeId} {xs : List Value} (h : w.ownsRow base e 1 (.slice (some ⟨gd, 0, none⟩) n c) n xs) (hi : i < n) (u : Value) :
 (w.setCell ⟨gd, i, none⟩ u).ownsRow base e 1 (.slice (some ⟨gd, 0, none⟩) n c) n (xs.set i u) ∧ (∃ o, Upd gd o w (w.setCell ⟨gd, i, none⟩ u)) ∧ (∃ v, w.cell? ⟨gd, i, none⟩ = some v ∧ xs[i]? = some v) ∧ w.frozen? ⟨gd, i, none⟩ = false := by
 rcases h.2 with ⟨h0, -⟩ | ⟨g', cap', cur, hv, hb, hh, k1, k2, k3, k4⟩
 · cases h0
 · cases hv
   have hU := zas (i := i) (cs := cur.toList) (by simpa using hh) u; refine ⟨⟨by rw [List.length_set]; exact h.1, .inr ⟨gd, c, (cur.toList.set i u).toArray, rfl, hb, hU.at_, k1, k2, by simpa using k3, ?_⟩⟩, ⟨_, hU⟩, ?_, zar hh i⟩
   · rw [← k4]; simp [List.take_set]
   · have hic : i < cur.size := by omega
     refine ⟨cur[i], by rw [zaf hh]; exact Array.getElem?_eq_getElem hic, ?_⟩; rw [← k4, List.getElem?_take_of_lt (by omega)]; simp [hic]
theorem u8_xor (a b : Nat) (ha : a < 256) (hb : b < 256) : bits .xor .u8 (a : Int) (b : Int) = ((a ^^^ b : Nat) : Int) := u8_xor_nat a b ha hb
theorem wrap_u8 (x : Int) : IntKind.u8.wrap x = (((x % 256).toNat : Nat) : Int) := by
 have : IntKind.u8.wrap x = x % 256 := by simp [IntKind.wrap, IntKind.bits, IntKind.signed] <;> omega
 rw [this]; omega
structure FaultP (N : Nd) (f : Flt) (d b q : Nat) : Prop where
 k1 : f.k = 1 → N.faultB f = true ∧ N.faultN f = { N with plan := putF N.plan f.a (.bool true) }
 k2 : f.k = 2 → N.faultB f = true ∧ N.faultN f = N.upd d b { N.blk d b with fails := true }
 k3 : f.k = 3 → (N.blk d b).cells.length ≤ q → N.faultB f = true ∧ N.faultN f = N
 k3' : ∀ c, f.k = 3 → (N.blk d b).cells[q]? = some c → N.faultB f = true ∧ N.faultN f = N.upd d b { N.blk d b with cells := (N.blk d b).cells.set q ⟨c.p, true, c.turned⟩ }
 k4 : f.k = 4 → N.faultB f = true ∧ N.faultN f = { N with dead := N.dead.set d true }
 k5 : f.k = 5 → (f.n < 0 ∨ 32 ≤ f.n) → N.faultB f = false ∧ N.faultN f = N
 k5a : f.k = 5 → 0 ≤ f.n → f.n < 32 → (N.blk d b).cells.length ≤ q → N.faultB f = true ∧ N.faultN f = N
 k5b : ∀ c, f.k = 5 → 0 ≤ f.n → f.n < 32 → (N.blk d b).cells[q]? = some c → c.turned = true → N.faultB f = false ∧ N.faultN f = N
 k5c : ∀ c, f.k = 5 → 0 ≤ f.n → f.n < 32 → (N.blk d b).cells[q]? = some c → c.turned = false → c.lost = true → N.faultB f = true ∧ N.faultN f = N
 k5d : ∀ c, f.k = 5 → 0 ≤ f.n → f.n < 32 → (N.blk d b).cells[q]? = some c → c.turned = false → c.lost = false → N.faultB f = true ∧ N.faultN f = N.upd d b { N.blk d b with cells := (N.blk d b).cells.set q ⟨flip c.p f.n.toNat f.x, false, true⟩ }
 k0 : f.k ≠ 1 → f.k ≠ 2 → f.k ≠ 3 → f.k ≠ 4 → f.k ≠ 5 → N.faultB f = false ∧ N.faultN f = N
theorem set_same {α : Type} {l : List α} {i : Nat} {c : α} (h : l[i]? = some c) : l.set i c = l := by
 apply List.ext_getElem?
 intro j
 rw [List.getElem?_set]
 by_cases e : i = j
 · subst e
   have := (List.getElem?_eq_some_iff.1 h).1; rw [if_pos rfl, if_pos this, h]
 · simp [e]
theorem fault_plain {N : Nd} {f : Flt} {d b q : Nat} (hi : N.inG f.a = true) (hd : f.d.toNat = d) (hb : f.b.toNat = b) (hq : f.p = (q : Int)) : FaultP N f d b q := by
 have hat : N.at f.a = N.blk d b := by simp [Nd.at, Flt.a, hd, hb]
 have hup : ∀ M X, Nd.put M f.a X = M.upd d b X := fun M X => by simp [Nd.put, Flt.a, hd, hb]
 have hqn : f.p.toNat = q := by rw [hq]; rfl
 have hqa : f.a.p.toNat = q := hqn
 have hcell : N.cell? f.a = (N.blk d b).cells[q]? := by simp [Nd.cell?, hat, hqa]
 refine ⟨fun h => ?_, fun h => ?_, fun h h1 => ?_, fun c h h1 => ?_, fun h => ?_, fun h h1 => ?_, fun h h1 h2 h3 => ?_, fun c h h1 h2 h3 h4 => ?_, fun c h h1 h2 h3 h4 h5 => ?_, fun c h h1 h2 h3 h4 h5 => ?_, fun h1 h2 h3 h4 h5 => ?_⟩
 · have hB : N.faultB f = true := by simp [Nd.faultB, hi, h]
   exact ⟨hB, by simp [Nd.faultN, hB, h]⟩
 · have hB : N.faultB f = true := by simp [Nd.faultB, hi, h]
   exact ⟨hB, by simp [Nd.faultN, hB, h, hup, hat]⟩
 · have hB : N.faultB f = true := by simp [Nd.faultB, hi, h]
   refine ⟨hB, ?_⟩; simp only [Nd.faultN, hB, h, hup, hat, hqn, Blk.change, modify_none _ h1]; simp; exact upd_self N d b
 · have hB : N.faultB f = true := by simp [Nd.faultB, hi, h]
   refine ⟨hB, ?_⟩; simp only [Nd.faultN, hB, h, hup, hat, hqn, Blk.change, modify_set _ h1]; simp
 · have hB : N.faultB f = true := by simp [Nd.faultB, hi, h]
   exact ⟨hB, by simp [Nd.faultN, hB, h, hd]⟩
 · have hB : N.faultB f = false := by simp [Nd.faultB, hi, h]; omega
   exact ⟨hB, by simp [Nd.faultN, hB]⟩
 · have hB : N.faultB f = true := by simp [Nd.faultB, hi, h, hcell, List.getElem?_eq_none h3, h1, h2]
   refine ⟨hB, ?_⟩; simp only [Nd.faultN, hB, h, hup, hat, hqn, Blk.change, modify_none _ h3]; simp; exact upd_self N d b
 · have hB : N.faultB f = false := by simp [Nd.faultB, hi, h, hcell, h3, h4]
   exact ⟨hB, by simp [Nd.faultN, hB]⟩
 · have hB : N.faultB f = true := by simp [Nd.faultB, hi, h, hcell, h3, h4, h1, h2]
   refine ⟨hB, ?_⟩; simp only [Nd.faultN, hB, h, hup, hat, hqn, Blk.change, modify_set _ h3, h5]; simp [set_same h3]; exact upd_self N d b
 · have hB : N.faultB f = true := by simp [Nd.faultB, hi, h, hcell, h3, h4, h1, h2]
   refine ⟨hB, ?_⟩; simp only [Nd.faultN, hB, h, hup, hat, hqn, Blk.change, modify_set _ h3, h5]; simp
 · have hB : N.faultB f = false := by simp [Nd.faultB, hi, h1, h2, h3, h4, h5]
   exact ⟨hB, by simp [Nd.faultN, hB]⟩
theorem flip_ok {p : List Nat} {n : Nat} {x : Int} (h : p.length = 32 ∧ ∀ y ∈ p, y < 256) : (flip p n x).length = 32 ∧ ∀ y ∈ flip p n x, y < 256 := by
 refine ⟨by simp [flip, h.1], fun y hy => ?_⟩
 obtain ⟨i, hi, rfl⟩ := List.mem_iff_getElem.1 hy
 have hx : (x % 256).toNat < 256 := by omega
 have hi' : i < p.length := by simpa [flip] using hi
 have e : (flip p n x)[i] = if n = i then p[i] ^^^ (x % 256).toNat else p[i] := by simp [flip, List.getElem_modify]
 rw [e]
 split
 · exact Nat.xor_lt_two_pow (n := 8) (h.2 _ (List.getElem_mem _)) hx
 · exact h.2 _ (List.getElem_mem _)
theorem look_flt {w' : World} {base g : Nat} {Y : Lay} {N : Nd} (h : NandAt w' base g Y N) {f : Flt} (hin : N.inG f.a = true) {d b : Nat} (hd : f.a.d.toNat = d) (hb : f.a.b.toNat = b) : (Instr.lookup 110 (.map (some Y.mb)) (.agg (key f.d f.b).v.toArray) false).run Tryz.prog w' = .ok (.pointer (some ⟨Y.q d b, 0, none⟩)) w' := by
 have := look_at h hin w'
 rw [hd, hb] at this
 exact this
section
variable {w : World} {base g : Nat} {Y : Lay} {N : Nd}
set_option maxRecDepth 100000 in
set_option maxHeartbeats 8000000 in
theorem fault_any (h : NandAt w base g Y N) (f : Flt) (hf : f.wf) (hnp : Y.np ≤ 100000) :
 Calls Tryz.prog 47 #[.pointer (some ⟨g, 0, none⟩), .agg f.v.toArray] w fun e w' => e = .returned (.bool (N.faultB f)) ∧ (∃ Y', Y'.np ≤ Y.np + 1 ∧ NandAt w' base g Y' (N.faultN f)) ∧ Fr base g w w' := by
 have hnn := nonnil_eql
 have hbel := (Below.refl _ w).alloc (Nat.le_refl _) (.cells f.v.toArray 87)
 have ha := heap_alloc_new w (.cells f.v.toArray 87)
 have hN := h.below hbel
 have hge := h.ok.geo
 have hIn : ∀ w, Calls Tryz.prog 80 #[.agg ([.int .i64 (N.D : Int), .int .i64 (N.B : Int), .int .i64 (N.P : Int)]).toArray, .agg f.a.v.toArray] w fun e w' => e = .returned (.bool (N.inG f.a)) ∧ Below w.heap.size w w' := fun w => by
  have := in_geo (N.D : Int) (N.B : Int) (N.P : Int) f.a.d f.a.b f.a.p w (by omega) (by omega) (by omega); rw [inG_eq] at this; exact this
 have HF := Lib.hid ha
 have HN := Lib.hid hN
 have HB := Lib.hid hbel
 have HWF := Lib.hid hf
 have HNP := Lib.hid hnp
 have HLow := Lib.hid (show base ≤ w.heap.size from Nat.le_of_lt (Nat.lt_of_le_of_lt h.lowg.1 (zag h.head)))
 clear h ha hN hbel hf hge hnp
 go_enter Tryz.func47, Tryz.ntmps47
 go_upto_region 1 with fail
 change Code.wp _ _ _ _ (w.alloc (.cells f.v.toArray 87))
 generalize w.alloc (.cells f.v.toArray 87) = w1 at *
 cases hi : N.inG f.a with
 | false =>
  rw [hi] at hIn; have HIn := Lib.hid hIn; have HPL := Lib.hid (show N.faultB f = false ∧ N.faultN f = N by have hB : N.faultB f = false := (by simp [Nd.faultB, hi]); exact ⟨hB, by simp [Nd.faultN, hB]⟩); clear hIn hi
  refine zan (by kernel_rfl) (by kernel_rfl) (X := Unit) (fun _ => [(some 7, .pointer (some ⟨g, 0, none⟩)), (some 8, .bool false), (some 9, .bool false), (some 10, .pointer (some ⟨g, 0, none⟩)), (some 11, .pointer (some ⟨g, 0, none⟩)), (some 12, .pointer (some ⟨g, 0, none⟩)), (some 13, .agg ([.int .i64 (N.D : Int), .int .i64 (N.B : Int), .int .i64 (N.P : Int)]).toArray), (some 14, .pointer (some ⟨w.heap.size, 2, none⟩)), (some 15, .agg f.a.v.toArray), (some 16, .bool false), (some 17, .bool true), (some 18, .bool true)])
   (fun _ L w' => w'.heap[w.heap.size]? = some (.cells f.v.toArray 87 (0, 0)) ∧ NandAt w' base g Y N ∧ Below w.heap.size w w') (fun _ => rfl) (by kernel_rfl) ⟨(), fun _ _ => ⟨HF.out, (HN.out.drew), HB.out.drew⟩⟩ ?_ ?_
  · refine ⟨?_, ?_, ?_, ?_, ?_, ?_, ?_, ?_, ?_, ?_, ?_, ?_, trivial⟩
    · intro _ L w' hL hpre hJ a ha
      obtain ⟨jf, jn, jb⟩ := hJ; simp [Region.binds] at hpre; refine .inl ⟨zaa rfl, ?_⟩; exact zah (.tmp 0) (.inl rfl) (.pointer (some ⟨g, 0, none⟩)) (by rw [ha, zac rfl]; rfl) ⟨(), _, rfl, rfl, jf, jn, jb⟩
    · intro _ L w' hL hpre hJ a ha
      obtain ⟨jf, jn, jb⟩ := hJ; simp [Region.binds] at hpre; refine .inl ⟨zaa rfl, ?_⟩; have e7 : a.eval (.tmp 7) = .pointer (some ⟨g, 0, none⟩) := evP ha 0 rfl (by simp [hpre]) (by simp) rfl; clear ha; have cc := nonnil_eql; have jf' := Lib.hid jf; have jn' := Lib.hid jn; have jb' := Lib.hid jb; clear jf jn jb; refine zab fun K HK => ?_; unfold Oper.wp; simp only [execOp, e7]; go_simp; exact HK.out _ _ ⟨(), _, rfl, rfl, jf'.out, jn'.out, jb'.out⟩
    · intro _ L w' hL hpre hJ a ha
      obtain ⟨jf, jn, jb⟩ := hJ; simp [Region.binds] at hpre; refine .inl ⟨zaa rfl, ?_⟩; exact zah (.tmp 8) (.inl rfl) (.bool false) (evP ha 1 rfl (by simp [hpre]) (by simp) rfl) ⟨(), _, rfl, rfl, jf, jn, jb⟩
    · intro _ L w' hL hpre hJ a ha
      obtain ⟨jf, jn, jb⟩ := hJ; simp [Region.binds] at hpre; refine .inl ⟨zae (g := 2) (t := 9) (b := false) rfl rfl (evP ha 2 rfl (by simp [hpre]) (by simp) rfl), ?_⟩; exact zah (.tmp 0) (.inl rfl) (.pointer (some ⟨g, 0, none⟩)) (by rw [ha, zac rfl]; rfl) ⟨(), _, rfl, rfl, jf, jn, jb⟩
    · intro _ L w' hL hpre hJ a ha
      obtain ⟨jf, jn, jb⟩ := hJ; simp [Region.binds] at hpre; refine .inl ⟨zae (g := 2) (t := 9) (b := false) rfl rfl (evP ha 2 rfl (by simp [hpre]) (by simp) rfl), ?_⟩; have e10 : a.eval (.tmp 10) = .pointer (some ⟨g, 0, none⟩) := evP ha 3 rfl (by simp [hpre]) (by simp) rfl; clear ha; have jf' := Lib.hid jf; have jn' := Lib.hid jn; have jb' := Lib.hid jb; clear jf jn jb; refine zab fun K HK => ?_; unfold Oper.wp; simp only [execOp, e10]; go_simp; exact HK.out _ _ ⟨(), _, rfl, rfl, jf'.out, jn'.out, jb'.out⟩
    · intro _ L w' hL hpre hJ a ha
      obtain ⟨jf, jn, jb⟩ := hJ; simp [Region.binds] at hpre; refine .inl ⟨zae (g := 2) (t := 9) (b := false) rfl rfl (evP ha 2 rfl (by simp [hpre]) (by simp) rfl), ?_⟩; have e11 : a.eval (.tmp 11) = .pointer (some ⟨g, 0, none⟩) := evP ha 4 rfl (by simp [hpre]) (by simp) rfl; clear ha; have jf' := Lib.hid jf; have jn' := Lib.hid jn; have jb' := Lib.hid jb; clear jf jn jb; refine zab fun K HK => ?_; unfold Oper.wp; simp only [execOp, e11]; go_simp; exact HK.out _ _ ⟨(), _, rfl, rfl, jf'.out, jn'.out, jb'.out⟩
    · intro _ L w' hL hpre hJ a ha
      obtain ⟨jf, jn, jb⟩ := hJ; simp [Region.binds] at hpre; refine .inl ⟨zae (g := 2) (t := 9) (b := false) rfl rfl (evP ha 2 rfl (by simp [hpre]) (by simp) rfl), ?_⟩; exact wp_load_mid 39 (.tmp 12) rfl g 0 (evP ha 5 rfl (by simp [hpre]) (by simp) rfl) [.int .i64 (N.D : Int), .int .i64 (N.B : Int), .int .i64 (N.P : Int)] _ (geo_range jn) Tryz.underlying39 rfl geoInfo ⟨(), _, rfl, rfl, jf, jn, jb⟩
    · intro _ L w' hL hpre hJ a ha
      obtain ⟨jf, jn, jb⟩ := hJ; simp [Region.binds] at hpre; refine .inl ⟨zae (g := 2) (t := 9) (b := false) rfl rfl (evP ha 2 rfl (by simp [hpre]) (by simp) rfl), ?_⟩; have e3 : a.eval (.tmp 3) = .pointer (some ⟨w.heap.size, 0, none⟩) := by rw [ha, zac rfl]; rfl
      clear ha; have jf' := Lib.hid jf; have jn' := Lib.hid jn; have jb' := Lib.hid jb; clear jf jn jb; refine zab fun K HK => ?_; unfold Oper.wp; simp only [execOp, e3]; go_simp; exact HK.out _ _ ⟨(), _, rfl, rfl, jf'.out, jn'.out, jb'.out⟩
    · intro _ L w' hL hpre hJ a ha
      obtain ⟨jf, jn, jb⟩ := hJ; simp [Region.binds] at hpre; refine .inl ⟨zae (g := 2) (t := 9) (b := false) rfl rfl (evP ha 2 rfl (by simp [hpre]) (by simp) rfl), ?_⟩; exact wp_load_mid 85 (.tmp 14) rfl w.heap.size 2 (evP ha 7 rfl (by simp [hpre]) (by simp) rfl) f.a.v _ (flt_addr jf) Tryz.underlying85 rfl zbx ⟨(), _, rfl, rfl, jf, jn, jb⟩
    · intro _ L w' hL hpre hJ a ha
      obtain ⟨jf, jn, jb⟩ := hJ; simp [Region.binds] at hpre; refine .inl ⟨zae (g := 2) (t := 9) (b := false) rfl rfl (evP ha 2 rfl (by simp [hpre]) (by simp) rfl), ?_⟩; have e13 : a.eval (.tmp 13) = .agg ([.int .i64 (N.D : Int), .int .i64 (N.B : Int), .int .i64 (N.P : Int)]).toArray := evP ha 6 rfl (by simp [hpre]) (by simp) rfl; have e15 : a.eval (.tmp 15) = .agg f.a.v.toArray := evP ha 8 rfl (by simp [hpre]) (by simp) rfl; clear ha; have jf' := Lib.hid jf; have jn' := Lib.hid jn; have jb' := Lib.hid jb; clear jf jn jb; refine zab fun K HK => ?_; unfold Oper.wp; simp only [execOp, resolve, List.map_toArray, List.map_cons, List.map_nil, e13, e15]; go_simp; refine (HIn.out w').mono ?_; rintro e w'' ⟨rfl, hb⟩; exact HK.out _ _ ⟨(), _, rfl, rfl, zad jf'.out hb, (NandAt.below jn'.out hb), jb'.out.trans (hb.mono jb'.out.size)⟩
    · intro _ L w' hL hpre hJ a ha
      obtain ⟨jf, jn, jb⟩ := hJ; simp [Region.binds] at hpre; refine .inl ⟨zae (g := 2) (t := 9) (b := false) rfl rfl (evP ha 2 rfl (by simp [hpre]) (by simp) rfl), ?_⟩; have e16 : a.eval (.tmp 16) = .bool false := evP ha 9 rfl (by simp [hpre]) (by simp) rfl; clear ha; have jf' := Lib.hid jf; have jn' := Lib.hid jn; have jb' := Lib.hid jb; clear jf jn jb; refine zab fun K HK => ?_; unfold Oper.wp; simp only [execOp, e16]; go_simp; exact HK.out _ _ ⟨(), _, rfl, rfl, jf'.out, jn'.out, jb'.out⟩
    · intro _ L w' hL hpre hJ a ha
      obtain ⟨jf, jn, jb⟩ := hJ; simp [Region.binds] at hpre; refine .inl ⟨zaa rfl, ?_⟩; have e9 : a.eval (.tmp 9) = .bool false := evP ha 2 rfl (by simp [hpre]) (by simp) rfl; have e17 : a.eval (.tmp 17) = .bool true := evP ha 10 rfl (by simp [hpre]) (by simp) rfl; clear ha; have jf' := Lib.hid jf; have jn' := Lib.hid jn; have jb' := Lib.hid jb; clear jf jn jb; refine zab fun K HK => ?_; unfold Oper.wp; simp only [execOp, e9, e17]; go_simp; exact HK.out _ _ ⟨(), _, rfl, rfl, jf'.out, jn'.out, jb'.out⟩
  · intro _ L w' hL hJ
    obtain ⟨jf, jn, jb⟩ := hJ; clear hL; simp only [List.foldl_cons, List.foldl_nil]; go_simp; go_wp2_with fail
    go_ret
    exact ⟨by rw [HPL.out.1]; rfl, ⟨Y, Nat.le_succ _, by rw [HPL.out.2]; exact jn⟩, Fr.of_below jb⟩
 | true =>
  rw [hi] at hIn; have HIn := Lib.hid hIn; have hxin := in_iff hi; obtain ⟨d, hd⟩ : ∃ d, f.d.toNat = d := ⟨_, rfl⟩; obtain ⟨b, hb⟩ : ∃ b, f.b.toNat = b := ⟨_, rfl⟩; obtain ⟨q, hq⟩ := Int.eq_ofNat_of_zero_le (show 0 ≤ f.p from hxin.2.2.1); have HDN := Lib.hid (show d < N.D by have : f.a.d = f.d := rfl; omega); have HBN := Lib.hid (show b < N.B by have : f.a.b = f.b := rfl; omega); have HDI := Lib.hid (show f.d = (d : Int) by have : f.a.d = f.d := rfl; omega); have HPF := Lib.hid (fault_plain hi hd hb hq); have HIG := Lib.hid hi; have HDd := Lib.hid (show f.a.d.toNat = d from hd); have HBb := Lib.hid (show f.a.b.toNat = b from hb); have HQ := Lib.hid hq; clear hIn hi hxin hd hb hq
  refine zan (by kernel_rfl) (by kernel_rfl) (X := Unit) (fun _ => [(some 7, .pointer (some ⟨g, 0, none⟩)), (some 8, .bool false), (some 9, .bool false), (some 10, .pointer (some ⟨g, 0, none⟩)), (some 11, .pointer (some ⟨g, 0, none⟩)), (some 12, .pointer (some ⟨g, 0, none⟩)), (some 13, .agg ([.int .i64 (N.D : Int), .int .i64 (N.B : Int), .int .i64 (N.P : Int)]).toArray), (some 14, .pointer (some ⟨w.heap.size, 2, none⟩)), (some 15, .agg f.a.v.toArray), (some 16, .bool true), (some 17, .bool false), (some 18, .bool false)])
   (fun _ L w' => w'.heap[w.heap.size]? = some (.cells f.v.toArray 87 (0, 0)) ∧ NandAt w' base g Y N ∧ Below w.heap.size w w') (fun _ => rfl) (by kernel_rfl) ⟨(), fun _ _ => ⟨HF.out, (HN.out.drew), HB.out.drew⟩⟩ ?_ ?_
  · refine ⟨?_, ?_, ?_, ?_, ?_, ?_, ?_, ?_, ?_, ?_, ?_, ?_, trivial⟩
    · intro _ L w' hL hpre hJ a ha
      obtain ⟨jf, jn, jb⟩ := hJ; simp [Region.binds] at hpre; refine .inl ⟨zaa rfl, ?_⟩; exact zah (.tmp 0) (.inl rfl) (.pointer (some ⟨g, 0, none⟩)) (by rw [ha, zac rfl]; rfl) ⟨(), _, rfl, rfl, jf, jn, jb⟩
    · intro _ L w' hL hpre hJ a ha
      obtain ⟨jf, jn, jb⟩ := hJ; simp [Region.binds] at hpre; refine .inl ⟨zaa rfl, ?_⟩; have e7 : a.eval (.tmp 7) = .pointer (some ⟨g, 0, none⟩) := evP ha 0 rfl (by simp [hpre]) (by simp) rfl; clear ha; have cc := nonnil_eql; have jf' := Lib.hid jf; have jn' := Lib.hid jn; have jb' := Lib.hid jb; clear jf jn jb; refine zab fun K HK => ?_; unfold Oper.wp; simp only [execOp, e7]; go_simp; exact HK.out _ _ ⟨(), _, rfl, rfl, jf'.out, jn'.out, jb'.out⟩
    · intro _ L w' hL hpre hJ a ha
      obtain ⟨jf, jn, jb⟩ := hJ; simp [Region.binds] at hpre; refine .inl ⟨zaa rfl, ?_⟩; exact zah (.tmp 8) (.inl rfl) (.bool false) (evP ha 1 rfl (by simp [hpre]) (by simp) rfl) ⟨(), _, rfl, rfl, jf, jn, jb⟩
    · intro _ L w' hL hpre hJ a ha
      obtain ⟨jf, jn, jb⟩ := hJ; simp [Region.binds] at hpre; refine .inl ⟨zae (g := 2) (t := 9) (b := false) rfl rfl (evP ha 2 rfl (by simp [hpre]) (by simp) rfl), ?_⟩; exact zah (.tmp 0) (.inl rfl) (.pointer (some ⟨g, 0, none⟩)) (by rw [ha, zac rfl]; rfl) ⟨(), _, rfl, rfl, jf, jn, jb⟩
    · intro _ L w' hL hpre hJ a ha
      obtain ⟨jf, jn, jb⟩ := hJ; simp [Region.binds] at hpre; refine .inl ⟨zae (g := 2) (t := 9) (b := false) rfl rfl (evP ha 2 rfl (by simp [hpre]) (by simp) rfl), ?_⟩; have e10 : a.eval (.tmp 10) = .pointer (some ⟨g, 0, none⟩) := evP ha 3 rfl (by simp [hpre]) (by simp) rfl; clear ha; have jf' := Lib.hid jf; have jn' := Lib.hid jn; have jb' := Lib.hid jb; clear jf jn jb; refine zab fun K HK => ?_; unfold Oper.wp; simp only [execOp, e10]; go_simp; exact HK.out _ _ ⟨(), _, rfl, rfl, jf'.out, jn'.out, jb'.out⟩
    · intro _ L w' hL hpre hJ a ha
      obtain ⟨jf, jn, jb⟩ := hJ; simp [Region.binds] at hpre; refine .inl ⟨zae (g := 2) (t := 9) (b := false) rfl rfl (evP ha 2 rfl (by simp [hpre]) (by simp) rfl), ?_⟩; have e11 : a.eval (.tmp 11) = .pointer (some ⟨g, 0, none⟩) := evP ha 4 rfl (by simp [hpre]) (by simp) rfl; clear ha; have jf' := Lib.hid jf; have jn' := Lib.hid jn; have jb' := Lib.hid jb; clear jf jn jb; refine zab fun K HK => ?_; unfold Oper.wp; simp only [execOp, e11]; go_simp; exact HK.out _ _ ⟨(), _, rfl, rfl, jf'.out, jn'.out, jb'.out⟩
    · intro _ L w' hL hpre hJ a ha
      obtain ⟨jf, jn, jb⟩ := hJ; simp [Region.binds] at hpre; refine .inl ⟨zae (g := 2) (t := 9) (b := false) rfl rfl (evP ha 2 rfl (by simp [hpre]) (by simp) rfl), ?_⟩; exact wp_load_mid 39 (.tmp 12) rfl g 0 (evP ha 5 rfl (by simp [hpre]) (by simp) rfl) [.int .i64 (N.D : Int), .int .i64 (N.B : Int), .int .i64 (N.P : Int)] _ (geo_range jn) Tryz.underlying39 rfl geoInfo ⟨(), _, rfl, rfl, jf, jn, jb⟩
    · intro _ L w' hL hpre hJ a ha
      obtain ⟨jf, jn, jb⟩ := hJ; simp [Region.binds] at hpre; refine .inl ⟨zae (g := 2) (t := 9) (b := false) rfl rfl (evP ha 2 rfl (by simp [hpre]) (by simp) rfl), ?_⟩; have e3 : a.eval (.tmp 3) = .pointer (some ⟨w.heap.size, 0, none⟩) := by rw [ha, zac rfl]; rfl
      clear ha; have jf' := Lib.hid jf; have jn' := Lib.hid jn; have jb' := Lib.hid jb; clear jf jn jb; refine zab fun K HK => ?_; unfold Oper.wp; simp only [execOp, e3]; go_simp; exact HK.out _ _ ⟨(), _, rfl, rfl, jf'.out, jn'.out, jb'.out⟩
    · intro _ L w' hL hpre hJ a ha
      obtain ⟨jf, jn, jb⟩ := hJ; simp [Region.binds] at hpre; refine .inl ⟨zae (g := 2) (t := 9) (b := false) rfl rfl (evP ha 2 rfl (by simp [hpre]) (by simp) rfl), ?_⟩; exact wp_load_mid 85 (.tmp 14) rfl w.heap.size 2 (evP ha 7 rfl (by simp [hpre]) (by simp) rfl) f.a.v _ (flt_addr jf) Tryz.underlying85 rfl zbx ⟨(), _, rfl, rfl, jf, jn, jb⟩
    · intro _ L w' hL hpre hJ a ha
      obtain ⟨jf, jn, jb⟩ := hJ; simp [Region.binds] at hpre; refine .inl ⟨zae (g := 2) (t := 9) (b := false) rfl rfl (evP ha 2 rfl (by simp [hpre]) (by simp) rfl), ?_⟩; have e13 : a.eval (.tmp 13) = .agg ([.int .i64 (N.D : Int), .int .i64 (N.B : Int), .int .i64 (N.P : Int)]).toArray := evP ha 6 rfl (by simp [hpre]) (by simp) rfl; have e15 : a.eval (.tmp 15) = .agg f.a.v.toArray := evP ha 8 rfl (by simp [hpre]) (by simp) rfl; clear ha; have jf' := Lib.hid jf; have jn' := Lib.hid jn; have jb' := Lib.hid jb; clear jf jn jb; refine zab fun K HK => ?_; unfold Oper.wp; simp only [execOp, resolve, List.map_toArray, List.map_cons, List.map_nil, e13, e15]; go_simp; refine (HIn.out w').mono ?_; rintro e w'' ⟨rfl, hb⟩; exact HK.out _ _ ⟨(), _, rfl, rfl, zad jf'.out hb, (NandAt.below jn'.out hb), jb'.out.trans (hb.mono jb'.out.size)⟩
    · intro _ L w' hL hpre hJ a ha
      obtain ⟨jf, jn, jb⟩ := hJ; simp [Region.binds] at hpre; refine .inl ⟨zae (g := 2) (t := 9) (b := false) rfl rfl (evP ha 2 rfl (by simp [hpre]) (by simp) rfl), ?_⟩; have e16 : a.eval (.tmp 16) = .bool true := evP ha 9 rfl (by simp [hpre]) (by simp) rfl; clear ha; have jf' := Lib.hid jf; have jn' := Lib.hid jn; have jb' := Lib.hid jb; clear jf jn jb; refine zab fun K HK => ?_; unfold Oper.wp; simp only [execOp, e16]; go_simp; exact HK.out _ _ ⟨(), _, rfl, rfl, jf'.out, jn'.out, jb'.out⟩
    · intro _ L w' hL hpre hJ a ha
      obtain ⟨jf, jn, jb⟩ := hJ; simp [Region.binds] at hpre; refine .inl ⟨zaa rfl, ?_⟩; have e9 : a.eval (.tmp 9) = .bool false := evP ha 2 rfl (by simp [hpre]) (by simp) rfl; have e17 : a.eval (.tmp 17) = .bool false := evP ha 10 rfl (by simp [hpre]) (by simp) rfl; clear ha; have jf' := Lib.hid jf; have jn' := Lib.hid jn; have jb' := Lib.hid jb; clear jf jn jb; refine zab fun K HK => ?_; unfold Oper.wp; simp only [execOp, e9, e17]; go_simp; exact HK.out _ _ ⟨(), _, rfl, rfl, jf'.out, jn'.out, jb'.out⟩
  · intro _ L w' hL hJ
    obtain ⟨jf, jn, jb⟩ := hJ; clear hL; simp only [List.foldl_cons, List.foldl_nil]; go_simp; have HF2 := Lib.hid jf; have HN2 := Lib.hid jn; have HB2 := Lib.hid jb; clear jf jn jb; clear HF HN; have HF := HF2; have HN := HN2; go_upto_region 3 with fail
    refine zan (by kernel_rfl) (by kernel_rfl) (X := Unit) (fun _ => [(some 19, .pointer (some ⟨g, 0, none⟩)), (some 20, .pointer (some ⟨g, 0, none⟩)), (some 21, .pointer (some ⟨g, 3, none⟩)), (some 22, .map (some Y.mb)), (some 23, .pointer (some ⟨w.heap.size, 2, none⟩)), (some 24, .pointer (some ⟨w.heap.size, 2, none⟩)), (some 25, .int .i64 f.d), (some 26, .pointer (some ⟨w.heap.size, 2, none⟩)), (some 27, .pointer (some ⟨w.heap.size, 3, none⟩)), (some 28, .int .i64 f.b), (some 29, .agg (key f.d f.b).v.toArray), (some 30, .pointer (some ⟨Y.q d b, 0, none⟩)), (some 5, .pointer (some ⟨Y.q d b, 0, none⟩))])
     (fun _ L w' => w'.heap[w.heap.size]? = some (.cells f.v.toArray 87 (0, 0)) ∧ NandAt w' base g Y N ∧ Below w.heap.size w w') (fun _ => rfl) (by kernel_rfl) ⟨(), fun _ _ => ⟨HF.out, (HN.out.drew), HB2.out.drew⟩⟩ ?_ ?_
    · refine ⟨?_, ?_, ?_, ?_, ?_, ?_, ?_, ?_, ?_, ?_, ?_, ?_, ?_, trivial⟩
      · intro _ L w' hL hpre hJ a ha
        obtain ⟨jf, jn, jb⟩ := hJ; simp [Region.binds] at hpre; refine .inl ⟨zaa rfl, ?_⟩; exact zah (.tmp 0) (.inl rfl) (.pointer (some ⟨g, 0, none⟩)) (by rw [ha, zac rfl]; rfl) ⟨(), _, rfl, rfl, jf, jn, jb⟩
      · intro _ L w' hL hpre hJ a ha
        obtain ⟨jf, jn, jb⟩ := hJ; simp [Region.binds] at hpre; refine .inl ⟨zaa rfl, ?_⟩; have e19 : a.eval (.tmp 19) = .pointer (some ⟨g, 0, none⟩) := evP ha 0 rfl (by simp [hpre]) (by simp) rfl; clear ha; have jf' := Lib.hid jf; have jn' := Lib.hid jn; have jb' := Lib.hid jb; clear jf jn jb; refine zab fun K HK => ?_; unfold Oper.wp; simp only [execOp, e19]; go_simp; exact HK.out _ _ ⟨(), _, rfl, rfl, jf'.out, jn'.out, jb'.out⟩
      · intro _ L w' hL hpre hJ a ha
        obtain ⟨jf, jn, jb⟩ := hJ; simp [Region.binds] at hpre; refine .inl ⟨zaa rfl, ?_⟩; have e20 : a.eval (.tmp 20) = .pointer (some ⟨g, 0, none⟩) := evP ha 1 rfl (by simp [hpre]) (by simp) rfl; clear ha; have jf' := Lib.hid jf; have jn' := Lib.hid jn; have jb' := Lib.hid jb; clear jf jn jb; refine zab fun K HK => ?_; unfold Oper.wp; simp only [execOp, e20]; go_simp; exact HK.out _ _ ⟨(), _, rfl, rfl, jf'.out, jn'.out, jb'.out⟩
      · intro _ L w' hL hpre hJ a ha
        obtain ⟨jf, jn, jb⟩ := hJ; simp [Region.binds] at hpre; refine .inl ⟨zaa rfl, ?_⟩; have e21 : a.eval (.tmp 21) = .pointer (some ⟨g, 3, none⟩) := evP ha 2 rfl (by simp [hpre]) (by simp) rfl; clear ha; have cc := jn.c3; have jf' := Lib.hid jf; have jn' := Lib.hid jn; have jb' := Lib.hid jb; clear jf jn jb; refine zab fun K HK => ?_; unfold Oper.wp; simp only [execOp, e21]; go_simp; exact HK.out _ _ ⟨(), _, rfl, rfl, jf'.out, jn'.out, jb'.out⟩
      · intro _ L w' hL hpre hJ a ha
        obtain ⟨jf, jn, jb⟩ := hJ; simp [Region.binds] at hpre; refine .inl ⟨zaa rfl, ?_⟩; have e3 : a.eval (.tmp 3) = .pointer (some ⟨w.heap.size, 0, none⟩) := by rw [ha, zac rfl]; rfl
        clear ha; have jf' := Lib.hid jf; have jn' := Lib.hid jn; have jb' := Lib.hid jb; clear jf jn jb; refine zab fun K HK => ?_; unfold Oper.wp; simp only [execOp, e3]; go_simp; exact HK.out _ _ ⟨(), _, rfl, rfl, jf'.out, jn'.out, jb'.out⟩
      · intro _ L w' hL hpre hJ a ha
        obtain ⟨jf, jn, jb⟩ := hJ; simp [Region.binds] at hpre; refine .inl ⟨zaa rfl, ?_⟩; have e23 : a.eval (.tmp 23) = .pointer (some ⟨w.heap.size, 2, none⟩) := evP ha 4 rfl (by simp [hpre]) (by simp) rfl; clear ha; have jf' := Lib.hid jf; have jn' := Lib.hid jn; have jb' := Lib.hid jb; clear jf jn jb; refine zab fun K HK => ?_; unfold Oper.wp; simp only [execOp, e23]; go_simp; exact HK.out _ _ ⟨(), _, rfl, rfl, jf'.out, jn'.out, jb'.out⟩
      · intro _ L w' hL hpre hJ a ha
        obtain ⟨jf, jn, jb⟩ := hJ; simp [Region.binds] at hpre; refine .inl ⟨zaa rfl, ?_⟩; have e24 : a.eval (.tmp 24) = .pointer (some ⟨w.heap.size, 2, none⟩) := evP ha 5 rfl (by simp [hpre]) (by simp) rfl; clear ha; have cc := flt_c2 jf; have jf' := Lib.hid jf; have jn' := Lib.hid jn; have jb' := Lib.hid jb; clear jf jn jb; refine zab fun K HK => ?_; unfold Oper.wp; simp only [execOp, e24]; go_simp; exact HK.out _ _ ⟨(), _, rfl, rfl, jf'.out, jn'.out, jb'.out⟩
      · intro _ L w' hL hpre hJ a ha
        obtain ⟨jf, jn, jb⟩ := hJ; simp [Region.binds] at hpre; refine .inl ⟨zaa rfl, ?_⟩; have e3 : a.eval (.tmp 3) = .pointer (some ⟨w.heap.size, 0, none⟩) := by rw [ha, zac rfl]; rfl
        clear ha; have jf' := Lib.hid jf; have jn' := Lib.hid jn; have jb' := Lib.hid jb; clear jf jn jb; refine zab fun K HK => ?_; unfold Oper.wp; simp only [execOp, e3]; go_simp; exact HK.out _ _ ⟨(), _, rfl, rfl, jf'.out, jn'.out, jb'.out⟩
      · intro _ L w' hL hpre hJ a ha
        obtain ⟨jf, jn, jb⟩ := hJ; simp [Region.binds] at hpre; refine .inl ⟨zaa rfl, ?_⟩; have e26 : a.eval (.tmp 26) = .pointer (some ⟨w.heap.size, 2, none⟩) := evP ha 7 rfl (by simp [hpre]) (by simp) rfl; clear ha; have jf' := Lib.hid jf; have jn' := Lib.hid jn; have jb' := Lib.hid jb; clear jf jn jb; refine zab fun K HK => ?_; unfold Oper.wp; simp only [execOp, e26]; go_simp; exact HK.out _ _ ⟨(), _, rfl, rfl, jf'.out, jn'.out, jb'.out⟩
      · intro _ L w' hL hpre hJ a ha
        obtain ⟨jf, jn, jb⟩ := hJ; simp [Region.binds] at hpre; refine .inl ⟨zaa rfl, ?_⟩; have e27 : a.eval (.tmp 27) = .pointer (some ⟨w.heap.size, 3, none⟩) := evP ha 8 rfl (by simp [hpre]) (by simp) rfl; clear ha; have cc := flt_c3 jf; have jf' := Lib.hid jf; have jn' := Lib.hid jn; have jb' := Lib.hid jb; clear jf jn jb; refine zab fun K HK => ?_; unfold Oper.wp; simp only [execOp, e27]; go_simp; exact HK.out _ _ ⟨(), _, rfl, rfl, jf'.out, jn'.out, jb'.out⟩
      · intro _ L w' hL hpre hJ a ha
        obtain ⟨jf, jn, jb⟩ := hJ; simp [Region.binds] at hpre; refine .inl ⟨zaa rfl, ?_⟩; have e25 : a.eval (.tmp 25) = .int .i64 f.d := evP ha 6 rfl (by simp [hpre]) (by simp) rfl; have e28 : a.eval (.tmp 28) = .int .i64 f.b := evP ha 9 rfl (by simp [hpre]) (by simp) rfl; clear ha; have jf' := Lib.hid jf; have jn' := Lib.hid jn; have jb' := Lib.hid jb; clear jf jn jb; refine zab fun K HK => ?_; unfold Oper.wp; simp only [execOp, resolve, List.map_toArray, List.map_cons, List.map_nil, e25, e28]; go_simp; refine (key_any f.d f.b w').mono ?_; rintro e w'' ⟨rfl, hb⟩; exact HK.out _ _ ⟨(), _, rfl, rfl, zad jf'.out hb, (NandAt.below jn'.out hb), jb'.out.trans (hb.mono jb'.out.size)⟩
      · intro _ L w' hL hpre hJ a ha
        obtain ⟨jf, jn, jb⟩ := hJ; simp [Region.binds] at hpre; refine .inl ⟨zaa rfl, ?_⟩; have e22 : a.eval (.tmp 22) = .map (some Y.mb) := evP ha 3 rfl (by simp [hpre]) (by simp) rfl; have e29 : a.eval (.tmp 29) = .agg (key f.d f.b).v.toArray := evP ha 10 rfl (by simp [hpre]) (by simp) rfl; clear ha; have cc := look_flt jn HIG.out HDd.out HBb.out; have jf' := Lib.hid jf; have jn' := Lib.hid jn; have jb' := Lib.hid jb; clear jf jn jb; refine zab fun K HK => ?_; unfold Oper.wp; simp only [execOp, e22, e29]; go_simp; exact HK.out _ _ ⟨(), _, rfl, rfl, jf'.out, jn'.out, jb'.out⟩
      · intro _ L w' hL hpre hJ a ha
        obtain ⟨jf, jn, jb⟩ := hJ; simp [Region.binds] at hpre; refine .inl ⟨zaa rfl, ?_⟩; exact zah (.tmp 30) (.inr rfl) (.pointer (some ⟨Y.q d b, 0, none⟩)) (evP ha 11 rfl (by simp [hpre]) (by simp) rfl) ⟨(), _, rfl, rfl, jf, jn, jb⟩
    · intro _ L w' hL hJ
      obtain ⟨jf, jn, jb⟩ := hJ; clear hL; simp only [List.foldl_cons, List.foldl_nil]; go_simp; have HF3 := Lib.hid jf; have HN3 := Lib.hid jn; have HFR3 := Lib.hid (Fr.of_below (base := base) (g := g) jb); have cf4 := flt_c4 jf; rw [HQ.out] at cf4; have cf1 := flt_c1 jf; obtain ⟨Ac, cp, hcv, hcc, -⟩ := (jn.body.rows d b HDN.out HBN.out).slice; have cq := blk_c0 jn HDN.out HBN.out; rw [hcv] at cq; have hrow := Lib.hid (jn.body.rows d b HDN.out HBN.out).1; have hM8 := jn.ok.len d b; have hge := jn.ok.geo; have hPg := Lib.hid (jn.ok.page d b); have hcv0 := Lib.hid hcv; have HC2 := Lib.hid (jn.body.blk d b HDN.out HBN.out); obtain ⟨M, hM⟩ : ∃ M, M = (N.blk d b).cells.length := ⟨_, rfl⟩; rw [← hM] at cq hcv hM8; have HMe := Lib.hid hM; have HCV0 := Lib.hid hcv; replace hM8 : M ≤ 8 := by omega
      clear jf jn jb hcv hcc hge hM; obtain ⟨there, hth⟩ : ∃ there, there = decide (q < M) := ⟨_, rfl⟩; have HTH := Lib.hid hth; go_upto_region 4 with fail
      go_region
      rw [← hth]; clear hth cq cf4 cf1 hnn; have HF4 := Lib.hid (show w'.drew.heap[w.heap.size]? = some (.cells f.v.toArray 87 (0, 0)) from HF3.out); have HN5 := Lib.hid (show NandAt w'.drew base g Y N from HN3.out.drew); have HFR := Lib.hid (HFR3.out.trans (Fr.refl base g w').drew); clear HF3 HN3 HFR3 HF2 HN2 HB2 HF HN hcv0 HC2 hrow; generalize w'.drew = ws at *; have HF3 := HF4; have HF := HF4; have HN3 := HN5; have HN4 := HN5; have cf1 := flt_c1 HF4.out; by_cases hk1 : f.k = 1
      · have HPL := Lib.hid (HPF.out.k1 hk1)
        rw [hk1] at cf1; obtain ⟨NS, hNS⟩ : ∃ NS : Nd, NS = { N with plan := putF N.plan f.a (.bool true) } := ⟨_, rfl⟩; rw [← hNS] at HPL
        have HSet : Hid (∀ w', NandAt w' base g Y N → Calls Tryz.prog 81 #[.pointer (some ⟨Y.gp, 0, none⟩), .agg f.a.v.toArray, .bool true] w' fun e w'' => e = .returned (.tuple #[]) ∧ NandAt w'' base g { Y with np := Y.np + 1 } NS ∧ Fr base g w' w'') := Lib.hid fun w' hn => by
         refine (spotBool.set Y.gp Y.bp Y.np N.plan f.a (.bool true) w' hn.body.plan HWF.out.2.2.1 HNP.out rfl).mono ?_; rintro e w'' ⟨rfl, hS, hg⟩; rw [hNS]
         exact ⟨rfl, hn.setPlan hS hg fun p hp => by
          rcases mem_putF hp with rfl | hp
          · exact ⟨rfl, HWF.out.2.2.1⟩
          · exact hn.ok.plan p hp⟩
        have HFR3 := HFR; clear hNS hk1; go_upto_region 8 with fail
        refine zan (by kernel_rfl) (by kernel_rfl) (X := Unit) (fun _ => [(some 44, .pointer (some ⟨g, 0, none⟩)), (some 45, .pointer (some ⟨g, 0, none⟩)), (some 46, .pointer (some ⟨g, 4, none⟩)), (some 47, .pointer (some ⟨Y.gp, 0, none⟩)), (some 48, .pointer (some ⟨w.heap.size, 2, none⟩)), (some 49, .agg f.a.v.toArray), (some 50, .tuple #[])])
         (fun _ L w' => w'.heap[w.heap.size]? = some (.cells f.v.toArray 87 (0, 0)) ∧ w'.cell? ⟨g, 4, none⟩ = some (.pointer (some ⟨Y.gp, 0, none⟩)) ∧ (L 6 = false → NandAt w' base g Y N) ∧ (L 6 = true → NandAt w' base g { Y with np := Y.np + 1 } NS) ∧ Fr base g ws w' ∧ Below 0 ws w') (fun _ => rfl) (by kernel_rfl) ⟨(), fun L hL => ⟨HF3.out, HN3.out.c4, (fun _ => HN3.out.drew), (by rw [hL 6]; intro h; cases h), (Fr.refl base g ws).drew, (Below.refl 0 ws).drew⟩⟩ ?_ ?_
        · refine ⟨?_, ?_, ?_, ?_, ?_, ?_, ?_, trivial⟩
          · intro _ L w' hL hpre hJ a ha
            obtain ⟨jf, jc, j1, j2, jr, jb⟩ := hJ; simp [Region.binds] at hpre; refine .inl ⟨zaa rfl, ?_⟩; exact zah (.tmp 0) (.inl rfl) (.pointer (some ⟨g, 0, none⟩)) (by rw [ha, zac rfl]; rfl) ⟨(), _, rfl, rfl, jf, jc, j1, j2, jr, jb⟩
          · intro _ L w' hL hpre hJ a ha
            obtain ⟨jf, jc, j1, j2, jr, jb⟩ := hJ; simp [Region.binds] at hpre; refine .inl ⟨zaa rfl, ?_⟩; have e44 : a.eval (.tmp 44) = .pointer (some ⟨g, 0, none⟩) := evP ha 0 rfl (by simp [hpre]) (by simp) rfl; clear ha; have jf' := Lib.hid jf; have jc' := Lib.hid jc; have j1' := Lib.hid j1; have j2' := Lib.hid j2; have jr' := Lib.hid jr; have jb' := Lib.hid jb; clear jf jc j1 j2 jr jb; refine zab fun K HK => ?_; unfold Oper.wp; simp only [execOp, e44]; go_simp; exact HK.out _ _ ⟨(), _, rfl, rfl, jf'.out, jc'.out, j1'.out, j2'.out, jr'.out, jb'.out⟩
          · intro _ L w' hL hpre hJ a ha
            obtain ⟨jf, jc, j1, j2, jr, jb⟩ := hJ; simp [Region.binds] at hpre; refine .inl ⟨zaa rfl, ?_⟩; have e45 : a.eval (.tmp 45) = .pointer (some ⟨g, 0, none⟩) := evP ha 1 rfl (by simp [hpre]) (by simp) rfl; clear ha; have jf' := Lib.hid jf; have jc' := Lib.hid jc; have j1' := Lib.hid j1; have j2' := Lib.hid j2; have jr' := Lib.hid jr; have jb' := Lib.hid jb; clear jf jc j1 j2 jr jb; refine zab fun K HK => ?_; unfold Oper.wp; simp only [execOp, e45]; go_simp; exact HK.out _ _ ⟨(), _, rfl, rfl, jf'.out, jc'.out, j1'.out, j2'.out, jr'.out, jb'.out⟩
          · intro _ L w' hL hpre hJ a ha
            obtain ⟨jf, jc, j1, j2, jr, jb⟩ := hJ; simp [Region.binds] at hpre; refine .inl ⟨zaa rfl, ?_⟩; have e46 : a.eval (.tmp 46) = .pointer (some ⟨g, 4, none⟩) := evP ha 2 rfl (by simp [hpre]) (by simp) rfl; clear ha; have cc := jc; have jf' := Lib.hid jf; have jc' := Lib.hid jc; have j1' := Lib.hid j1; have j2' := Lib.hid j2; have jr' := Lib.hid jr; have jb' := Lib.hid jb; clear jf jc j1 j2 jr jb; refine zab fun K HK => ?_; unfold Oper.wp; simp only [execOp, e46]; go_simp; exact HK.out _ _ ⟨(), _, rfl, rfl, jf'.out, jc'.out, j1'.out, j2'.out, jr'.out, jb'.out⟩
          · intro _ L w' hL hpre hJ a ha
            obtain ⟨jf, jc, j1, j2, jr, jb⟩ := hJ; simp [Region.binds] at hpre; refine .inl ⟨zaa rfl, ?_⟩; have e3 : a.eval (.tmp 3) = .pointer (some ⟨w.heap.size, 0, none⟩) := by rw [ha, zac rfl]; rfl
            clear ha; have jf' := Lib.hid jf; have jc' := Lib.hid jc; have j1' := Lib.hid j1; have j2' := Lib.hid j2; have jr' := Lib.hid jr; have jb' := Lib.hid jb; clear jf jc j1 j2 jr jb; refine zab fun K HK => ?_; unfold Oper.wp; simp only [execOp, e3]; go_simp; exact HK.out _ _ ⟨(), _, rfl, rfl, jf'.out, jc'.out, j1'.out, j2'.out, jr'.out, jb'.out⟩
          · intro _ L w' hL hpre hJ a ha
            obtain ⟨jf, jc, j1, j2, jr, jb⟩ := hJ; simp [Region.binds] at hpre; refine .inl ⟨zaa rfl, ?_⟩; exact wp_load_mid 85 (.tmp 48) rfl w.heap.size 2 (evP ha 4 rfl (by simp [hpre]) (by simp) rfl) f.a.v _ (flt_addr jf) Tryz.underlying85 rfl zbx ⟨(), _, rfl, rfl, jf, jc, j1, j2, jr, jb⟩
          · intro _ L w' hL hpre hJ a ha
            obtain ⟨jf, jc, j1, j2, jr, jb⟩ := hJ; simp [Region.binds] at hpre; refine .inl ⟨zaa rfl, ?_⟩; have e47 : a.eval (.tmp 47) = .pointer (some ⟨Y.gp, 0, none⟩) := evP ha 3 rfl (by simp [hpre]) (by simp) rfl; have e49 : a.eval (.tmp 49) = .agg f.a.v.toArray := evP ha 5 rfl (by simp [hpre]) (by simp) rfl; have jf' := Lib.hid jf; have j1' := Lib.hid (j1 hL); have jr' := Lib.hid jr; clear jf j1 j2 jr jc ha; refine zab fun K HK => ?_; unfold Oper.wp; simp only [execOp, resolve, List.map_toArray, List.map_cons, List.map_nil, e47, e49]; go_simp; refine (HSet.out w' j1'.out).mono ?_; rintro e w'' ⟨rfl, hn2, hf2⟩; have hfz := jr'.out.trans hf2; exact HK.out _ _ ⟨(), _, rfl, rfl, hf2.blk jf'.out rfl, hn2.c4, fun h => by simp [also] at h, fun _ => hn2, hfz, ⟨hfz.os, hfz.tape, hfz.output, hfz.size, fun k hk => absurd hk (Nat.not_lt_zero k)⟩⟩
        · intro _ L w' hL hJ
          obtain ⟨jf, jc, j1, j2, jr, jb⟩ := hJ; have h6 := hL 6 (by decide); clear hL; simp only [List.foldl_cons, List.foldl_nil]; have HN6 := Lib.hid (j2 h6); have HF6 := Lib.hid jr; clear jf jc j1 j2 jr jb; go_simp; go_wp2_with fail
          go_ret
          exact ⟨by rw [HPL.out.1]; rfl, ⟨_, Nat.le_refl _, by rw [HPL.out.2]; exact HN6.out⟩, HFR3.out.trans HF6.out⟩
      by_cases hk2 : f.k = 2
      · have HPL := Lib.hid (HPF.out.k2 hk2)
        rw [hk2] at cf1; have hq := HN3.out.body.blk d b HDN.out HBN.out; have c2 : ws.cell? ⟨Y.q d b, 2, none⟩ = some (.bool (N.blk d b).fails) := by rw [zaf hq]; rfl
        have f2 := zar hq 2; have HST := Lib.hid (HN3.out.setStruct HDN.out HBN.out { N.blk d b with fails := true } rfl (zas (i := 2) hq (.bool true))); clear hq hk1 hk2; go_wp2_with fail
        go_ret
        exact ⟨by rw [HPL.out.1]; rfl, ⟨Y, Nat.le_succ _, by rw [HPL.out.2]; exact HST.out.1⟩, HFR.out.trans HST.out.2⟩
      by_cases hk3 : f.k = 3
      · rw [hk3] at cf1
        by_cases hqM : q < M
        · have hth : there = true := by rw [HTH.out]; simp; exact hqM
          subst hth; obtain ⟨gc, cp', e, -, -⟩ := za7 (HN3.out.body.rows d b HDN.out HBN.out).1 (by rw [← HMe.out]; omega); rw [← HMe.out] at e; rw [HCV0.out] at e; cases e
          obtain ⟨c, hcm⟩ : ∃ c, (N.blk d b).cells[q]? = some c := ⟨_, List.getElem?_eq_getElem (by rw [← HMe.out]; exact hqM)⟩; have hc32 := HN3.out.ok.page d b c (List.mem_of_getElem? hcm); have HPL := Lib.hid (HPF.out.k3' c hk3 hcm); have hcv : Y.cv d b = .slice (some ⟨gc, 0, none⟩) (N.blk d b).cells.length cp := by rw [← HMe.out]; exact HCV0.out
          have h32 : c.v[32]? = some (.bool c.lost) := by rw [Cel.v, List.getElem?_append_right (by rw [zaj, hc32.1]; exact Nat.le_refl _), zaj, hc32.1]; rfl
          have hset : c.v.set 32 (.bool true) = (lost1 c).v := by unfold Cel.v lost1; rw [List.set_append_right _ _ (by rw [zaj, hc32.1]; exact Nat.le_refl _), zaj, hc32.1]; rfl
          obtain ⟨cl, fl⟩ := HN3.out.inCell HDN.out HBN.out hcv hcm h32; have HS := Lib.hid (HN3.out.setIn HDN.out HBN.out hcv hcm (by decide) hset (show (lost1 c).p.length = 32 ∧ ∀ y ∈ (lost1 c).p, y < 256 from hc32)); have cq := blk_c0 HN3.out HDN.out HBN.out; rw [HCV0.out] at cq; have cf4 := flt_c4 HF3.out; rw [HQ.out] at cf4; have hqI : (q : Int) < (M : Int) := by omega
          clear hset h32 hcm hc32 hcv hk1 hk2 hk3; go_upto_region 13 with fail
          go_region
          go_wp2_with fail
          go_ret
          exact ⟨by rw [HPL.out.1]; rfl, ⟨Y, Nat.le_succ _, by rw [HPL.out.2]; exact HS.out.1.drew⟩, HFR.out.trans HS.out.2.drew⟩
        · have hth : there = false := by rw [HTH.out]; simp; omega
          subst hth; have HPL := Lib.hid (HPF.out.k3 hk3 (by rw [← HMe.out]; omega)); clear hk1 hk2 hk3; go_wp2_with fail
          go_ret
          exact ⟨by rw [HPL.out.1]; rfl, ⟨Y, Nat.le_succ _, by rw [HPL.out.2]; exact HN3.out⟩, HFR.out⟩
      by_cases hk4 : f.k = 4
      · have HPL := Lib.hid (HPF.out.k4 hk4)
        rw [hk4] at cf1; have hge := HN3.out.ok.geo; have hdl := HN3.out.ok.dead; have hdd := HN3.out.body.dead; obtain ⟨gd, cd, e, -, -⟩ := za7 hdd (by omega); have c5 := HN3.out.c5; rw [e] at c5 hdd; obtain ⟨ho, ⟨oo, hU⟩, ⟨vv, cv, -⟩, fd⟩ := own_set1 hdd HDN.out (.bool true); have hg : ws.grownBy (ws.setCell ⟨gd, d, none⟩ (.bool true)) Y.dv.ownBlock := by rw [e]; exact upd_grown hU
        have HS := Lib.hid (HN3.out.setDead (dd := N.dead.set d true) hg (by rw [e, List.map_set]; exact ho) (by rw [List.length_set]; exact hdl)); have cf2 := flt_c2 HF3.out; rw [HDI.out] at cf2; have hdI : (d : Int) < (N.D : Int) := by have := HDN.out; omega
        have hD6 : N.D ≤ 6 := hge.2.1; clear hge hdl hdd e ho hU hg hk1 hk2 hk3 hk4; go_upto_region 15 with fail
        go_region
        go_wp2_with fail
        go_ret
        exact ⟨by rw [HPL.out.1]; rfl, ⟨Y, Nat.le_succ _, by rw [HPL.out.2]; exact HS.out.1.drew⟩, HFR.out.trans HS.out.2.drew⟩
      by_cases hk5 : f.k = 5
      · rw [hk5] at cf1
        by_cases hl : f.n < 0
        · have HPL := Lib.hid (HPF.out.k5 hk5 (.inl hl))
          have HTl := Lib.hid (show decide (f.n < 0) = true from decide_eq_true hl); clear hl hk1 hk2 hk3 hk4 hk5; go_upto_region 17 with fail
          refine zan (by kernel_rfl) (by kernel_rfl) (X := Unit) (fun _ => [(some 80, .pointer (some ⟨w.heap.size, 5, none⟩)), (some 81, .int .i64 f.n), (some 82, .bool true), (some 83, .bool true), (some 84, undef), (some 85, undef), (some 86, undef), (some 87, .bool true), (some 88, .bool true), (some 89, undef), (some 90, undef), (some 91, undef), (some 92, undef), (some 93, undef), (some 94, undef), (some 95, undef), (some 96, undef), (some 97, undef), (some 98, undef), (some 99, undef), (some 100, undef), (some 101, undef), (some 102, .bool true)])
           (fun _ L w' => w'.heap[w.heap.size]? = some (.cells f.v.toArray 87 (0, 0)) ∧ NandAt w' base g Y N ∧ Below ws.heap.size ws w') (fun _ => rfl) (by kernel_rfl) ⟨(), fun _ _ => ⟨HF.out, HN4.out.drew, (Below.refl _ ws).drew⟩⟩ ?_ ?_
          · refine ⟨?_, ?_, ?_, ?_, ?_, ?_, ?_, ?_, ?_, ?_, ?_, ?_, ?_, ?_, ?_, ?_, ?_, ?_, ?_, ?_, ?_, ?_, ?_, trivial⟩
            · intro _ L w' hL hpre hJ a ha
              obtain ⟨jf, jn, jb⟩ := hJ; simp [Region.binds] at hpre; refine .inl ⟨zaa rfl, ?_⟩; have e3 : a.eval (.tmp 3) = .pointer (some ⟨w.heap.size, 0, none⟩) := by rw [ha, zac rfl]; rfl
              clear ha; have jf' := Lib.hid jf; have jn' := Lib.hid jn; have jb' := Lib.hid jb; clear jf jn jb; refine zab fun K HK => ?_; unfold Oper.wp; simp only [execOp, e3]; go_simp; exact HK.out _ _ ⟨(), _, rfl, rfl, jf'.out, jn'.out, jb'.out⟩
            · intro _ L w' hL hpre hJ a ha
              obtain ⟨jf, jn, jb⟩ := hJ; simp [Region.binds] at hpre; refine .inl ⟨zaa rfl, ?_⟩; have e80 : a.eval (.tmp 80) = .pointer (some ⟨w.heap.size, 5, none⟩) := evP ha 0 rfl (by simp [hpre]) (by simp) rfl; clear ha; have cc := flt_c5 jf; have jf' := Lib.hid jf; have jn' := Lib.hid jn; have jb' := Lib.hid jb; clear jf jn jb; refine zab fun K HK => ?_; unfold Oper.wp; simp only [execOp, e80]; go_simp; exact HK.out _ _ ⟨(), _, rfl, rfl, jf'.out, jn'.out, jb'.out⟩
            · intro _ L w' hL hpre hJ a ha
              obtain ⟨jf, jn, jb⟩ := hJ; simp [Region.binds] at hpre; refine .inl ⟨zaa rfl, ?_⟩; have e81 : a.eval (.tmp 81) = .int .i64 f.n := evP ha 1 rfl (by simp [hpre]) (by simp) rfl; clear ha; have cc := HTl.out; have jf' := Lib.hid jf; have jn' := Lib.hid jn; have jb' := Lib.hid jb; clear jf jn jb; refine zab fun K HK => ?_; unfold Oper.wp; simp only [execOp, e81]; go_simp; exact HK.out _ _ ⟨(), _, rfl, rfl, jf'.out, jn'.out, jb'.out⟩
            · intro _ L w' hL hpre hJ a ha
              obtain ⟨jf, jn, jb⟩ := hJ; simp [Region.binds] at hpre; refine .inl ⟨zaa rfl, ?_⟩; exact zah (.tmp 82) (.inl rfl) (.bool true) (evP ha 2 rfl (by simp [hpre]) (by simp) rfl) ⟨(), _, rfl, rfl, jf, jn, jb⟩
            · intro _ L w' hL hpre hJ a ha
              obtain ⟨jf, jn, jb⟩ := hJ; simp [Region.binds] at hpre; exact .inr ⟨zap (g := 3) (t := 83) (b := false) rfl rfl (evP ha 3 rfl (by simp [hpre]) (by simp) rfl), (), rfl, jf, jn, jb⟩
            · intro _ L w' hL hpre hJ a ha
              obtain ⟨jf, jn, jb⟩ := hJ; simp [Region.binds] at hpre; exact .inr ⟨zap (g := 3) (t := 83) (b := false) rfl rfl (evP ha 3 rfl (by simp [hpre]) (by simp) rfl), (), rfl, jf, jn, jb⟩
            · intro _ L w' hL hpre hJ a ha
              obtain ⟨jf, jn, jb⟩ := hJ; simp [Region.binds] at hpre; exact .inr ⟨zap (g := 3) (t := 83) (b := false) rfl rfl (evP ha 3 rfl (by simp [hpre]) (by simp) rfl), (), rfl, jf, jn, jb⟩
            · intro _ L w' hL hpre hJ a ha
              obtain ⟨jf, jn, jb⟩ := hJ; simp [Region.binds] at hpre; refine .inl ⟨zaa rfl, ?_⟩; have e83 : a.eval (.tmp 83) = .bool true := evP ha 3 rfl (by simp [hpre]) (by simp) rfl; clear ha; have jf' := Lib.hid jf; have jn' := Lib.hid jn; have jb' := Lib.hid jb; clear jf jn jb; refine zab fun K HK => ?_; unfold Oper.wp; simp only [execOp, e83]; go_simp; exact HK.out _ _ ⟨(), _, rfl, rfl, jf'.out, jn'.out, jb'.out⟩
            · intro _ L w' hL hpre hJ a ha
              obtain ⟨jf, jn, jb⟩ := hJ; simp [Region.binds] at hpre; refine .inl ⟨zaa rfl, ?_⟩; exact zah (.tmp 87) (.inl rfl) (.bool true) (evP ha 7 rfl (by simp [hpre]) (by simp) rfl) ⟨(), _, rfl, rfl, jf, jn, jb⟩
            · intro _ L w' hL hpre hJ a ha
              obtain ⟨jf, jn, jb⟩ := hJ; simp [Region.binds] at hpre; exact .inr ⟨zap (g := 8) (t := 88) (b := false) rfl rfl (evP ha 8 rfl (by simp [hpre]) (by simp) rfl), (), rfl, jf, jn, jb⟩
            · intro _ L w' hL hpre hJ a ha
              obtain ⟨jf, jn, jb⟩ := hJ; simp [Region.binds] at hpre; exact .inr ⟨zap (g := 8) (t := 88) (b := false) rfl rfl (evP ha 8 rfl (by simp [hpre]) (by simp) rfl), (), rfl, jf, jn, jb⟩
            · intro _ L w' hL hpre hJ a ha
              obtain ⟨jf, jn, jb⟩ := hJ; simp [Region.binds] at hpre; exact .inr ⟨zaq (g := 10) (t := 90) (b := true) rfl rfl (evP ha 10 rfl (by simp [hpre]) (by simp) rfl), (), rfl, jf, jn, jb⟩
            · intro _ L w' hL hpre hJ a ha
              obtain ⟨jf, jn, jb⟩ := hJ; simp [Region.binds] at hpre; exact .inr ⟨zaq (g := 10) (t := 90) (b := true) rfl rfl (evP ha 10 rfl (by simp [hpre]) (by simp) rfl), (), rfl, jf, jn, jb⟩
            · intro _ L w' hL hpre hJ a ha
              obtain ⟨jf, jn, jb⟩ := hJ; simp [Region.binds] at hpre; exact .inr ⟨zaq (g := 10) (t := 90) (b := true) rfl rfl (evP ha 10 rfl (by simp [hpre]) (by simp) rfl), (), rfl, jf, jn, jb⟩
            · intro _ L w' hL hpre hJ a ha
              obtain ⟨jf, jn, jb⟩ := hJ; simp [Region.binds] at hpre; exact .inr ⟨zaq (g := 10) (t := 90) (b := true) rfl rfl (evP ha 10 rfl (by simp [hpre]) (by simp) rfl), (), rfl, jf, jn, jb⟩
            · intro _ L w' hL hpre hJ a ha
              obtain ⟨jf, jn, jb⟩ := hJ; simp [Region.binds] at hpre; exact .inr ⟨zaq (g := 10) (t := 90) (b := true) rfl rfl (evP ha 10 rfl (by simp [hpre]) (by simp) rfl), (), rfl, jf, jn, jb⟩
            · intro _ L w' hL hpre hJ a ha
              obtain ⟨jf, jn, jb⟩ := hJ; simp [Region.binds] at hpre; exact .inr ⟨zaq (g := 10) (t := 90) (b := true) rfl rfl (evP ha 10 rfl (by simp [hpre]) (by simp) rfl), (), rfl, jf, jn, jb⟩
            · intro _ L w' hL hpre hJ a ha
              obtain ⟨jf, jn, jb⟩ := hJ; simp [Region.binds] at hpre; exact .inr ⟨zaq (g := 10) (t := 90) (b := true) rfl rfl (evP ha 10 rfl (by simp [hpre]) (by simp) rfl), (), rfl, jf, jn, jb⟩
            · intro _ L w' hL hpre hJ a ha
              obtain ⟨jf, jn, jb⟩ := hJ; simp [Region.binds] at hpre; exact .inr ⟨zaq (g := 10) (t := 90) (b := true) rfl rfl (evP ha 10 rfl (by simp [hpre]) (by simp) rfl), (), rfl, jf, jn, jb⟩
            · intro _ L w' hL hpre hJ a ha
              obtain ⟨jf, jn, jb⟩ := hJ; simp [Region.binds] at hpre; exact .inr ⟨zaq (g := 10) (t := 90) (b := true) rfl rfl (evP ha 10 rfl (by simp [hpre]) (by simp) rfl), (), rfl, jf, jn, jb⟩
            · intro _ L w' hL hpre hJ a ha
              obtain ⟨jf, jn, jb⟩ := hJ; simp [Region.binds] at hpre; exact .inr ⟨zaq (g := 10) (t := 90) (b := true) rfl rfl (evP ha 10 rfl (by simp [hpre]) (by simp) rfl), (), rfl, jf, jn, jb⟩
            · intro _ L w' hL hpre hJ a ha
              obtain ⟨jf, jn, jb⟩ := hJ; simp [Region.binds] at hpre; exact .inr ⟨zap (g := 8) (t := 88) (b := false) rfl rfl (evP ha 8 rfl (by simp [hpre]) (by simp) rfl), (), rfl, jf, jn, jb⟩
            · intro _ L w' hL hpre hJ a ha
              obtain ⟨jf, jn, jb⟩ := hJ; simp [Region.binds] at hpre; refine .inl ⟨zaa rfl, ?_⟩; have e88 : a.eval (.tmp 88) = .bool true := evP ha 8 rfl (by simp [hpre]) (by simp) rfl; clear ha; have jf' := Lib.hid jf; have jn' := Lib.hid jn; have jb' := Lib.hid jb; clear jf jn jb; refine zab fun K HK => ?_; unfold Oper.wp; simp only [execOp, e88]; go_simp; exact HK.out _ _ ⟨(), _, rfl, rfl, jf'.out, jn'.out, jb'.out⟩
          · intro _ L w' hL hJ
            obtain ⟨jf, jn, jb⟩ := hJ; clear hL; simp only [List.foldl_cons, List.foldl_nil]; go_simp; go_wp2_with fail
            go_ret
            exact ⟨by rw [HPL.out.1]; rfl, ⟨Y, Nat.le_succ _, by rw [HPL.out.2]; exact jn⟩, HFR.out.trans (Fr.of_below jb)⟩
        · have hl0 : 0 ≤ f.n := by omega
          have HTl := Lib.hid (show decide (f.n < 0) = false from decide_eq_false hl); by_cases hg : 32 ≤ f.n
          · have HPL := Lib.hid (HPF.out.k5 hk5 (.inr hg))
            have HTg := Lib.hid (show decide (32 ≤ f.n) = true from decide_eq_true hg); clear hl hl0 hg hk1 hk2 hk3 hk4 hk5; go_upto_region 17 with fail
            refine zan (by kernel_rfl) (by kernel_rfl) (X := Unit) (fun _ => [(some 80, .pointer (some ⟨w.heap.size, 5, none⟩)), (some 81, .int .i64 f.n), (some 82, .bool false), (some 83, .bool false), (some 84, .pointer (some ⟨w.heap.size, 5, none⟩)), (some 85, .int .i64 f.n), (some 86, .bool true), (some 87, .bool true), (some 88, .bool true), (some 89, undef), (some 90, undef), (some 91, undef), (some 92, undef), (some 93, undef), (some 94, undef), (some 95, undef), (some 96, undef), (some 97, undef), (some 98, undef), (some 99, undef), (some 100, undef), (some 101, undef), (some 102, .bool true)])
             (fun _ L w' => w'.heap[w.heap.size]? = some (.cells f.v.toArray 87 (0, 0)) ∧ NandAt w' base g Y N ∧ Below ws.heap.size ws w') (fun _ => rfl) (by kernel_rfl) ⟨(), fun _ _ => ⟨HF.out, HN4.out.drew, (Below.refl _ ws).drew⟩⟩ ?_ ?_
            · refine ⟨?_, ?_, ?_, ?_, ?_, ?_, ?_, ?_, ?_, ?_, ?_, ?_, ?_, ?_, ?_, ?_, ?_, ?_, ?_, ?_, ?_, ?_, ?_, trivial⟩
              · intro _ L w' hL hpre hJ a ha
                obtain ⟨jf, jn, jb⟩ := hJ; simp [Region.binds] at hpre; refine .inl ⟨zaa rfl, ?_⟩; have e3 : a.eval (.tmp 3) = .pointer (some ⟨w.heap.size, 0, none⟩) := by rw [ha, zac rfl]; rfl
                clear ha; have jf' := Lib.hid jf; have jn' := Lib.hid jn; have jb' := Lib.hid jb; clear jf jn jb; refine zab fun K HK => ?_; unfold Oper.wp; simp only [execOp, e3]; go_simp; exact HK.out _ _ ⟨(), _, rfl, rfl, jf'.out, jn'.out, jb'.out⟩
              · intro _ L w' hL hpre hJ a ha
                obtain ⟨jf, jn, jb⟩ := hJ; simp [Region.binds] at hpre; refine .inl ⟨zaa rfl, ?_⟩; have e80 : a.eval (.tmp 80) = .pointer (some ⟨w.heap.size, 5, none⟩) := evP ha 0 rfl (by simp [hpre]) (by simp) rfl; clear ha; have cc := flt_c5 jf; have jf' := Lib.hid jf; have jn' := Lib.hid jn; have jb' := Lib.hid jb; clear jf jn jb; refine zab fun K HK => ?_; unfold Oper.wp; simp only [execOp, e80]; go_simp; exact HK.out _ _ ⟨(), _, rfl, rfl, jf'.out, jn'.out, jb'.out⟩
              · intro _ L w' hL hpre hJ a ha
                obtain ⟨jf, jn, jb⟩ := hJ; simp [Region.binds] at hpre; refine .inl ⟨zaa rfl, ?_⟩; have e81 : a.eval (.tmp 81) = .int .i64 f.n := evP ha 1 rfl (by simp [hpre]) (by simp) rfl; clear ha; have cc := HTl.out; have jf' := Lib.hid jf; have jn' := Lib.hid jn; have jb' := Lib.hid jb; clear jf jn jb; refine zab fun K HK => ?_; unfold Oper.wp; simp only [execOp, e81]; go_simp; exact HK.out _ _ ⟨(), _, rfl, rfl, jf'.out, jn'.out, jb'.out⟩
              · intro _ L w' hL hpre hJ a ha
                obtain ⟨jf, jn, jb⟩ := hJ; simp [Region.binds] at hpre; refine .inl ⟨zaa rfl, ?_⟩; exact zah (.tmp 82) (.inl rfl) (.bool false) (evP ha 2 rfl (by simp [hpre]) (by simp) rfl) ⟨(), _, rfl, rfl, jf, jn, jb⟩
              · intro _ L w' hL hpre hJ a ha
                obtain ⟨jf, jn, jb⟩ := hJ; simp [Region.binds] at hpre; refine .inl ⟨zae (g := 3) (t := 83) (b := false) rfl rfl (evP ha 3 rfl (by simp [hpre]) (by simp) rfl), ?_⟩; have e3 : a.eval (.tmp 3) = .pointer (some ⟨w.heap.size, 0, none⟩) := by rw [ha, zac rfl]; rfl
                clear ha; have jf' := Lib.hid jf; have jn' := Lib.hid jn; have jb' := Lib.hid jb; clear jf jn jb; refine zab fun K HK => ?_; unfold Oper.wp; simp only [execOp, e3]; go_simp; exact HK.out _ _ ⟨(), _, rfl, rfl, jf'.out, jn'.out, jb'.out⟩
              · intro _ L w' hL hpre hJ a ha
                obtain ⟨jf, jn, jb⟩ := hJ; simp [Region.binds] at hpre; refine .inl ⟨zae (g := 3) (t := 83) (b := false) rfl rfl (evP ha 3 rfl (by simp [hpre]) (by simp) rfl), ?_⟩; have e84 : a.eval (.tmp 84) = .pointer (some ⟨w.heap.size, 5, none⟩) := evP ha 4 rfl (by simp [hpre]) (by simp) rfl; clear ha; have cc := flt_c5 jf; have jf' := Lib.hid jf; have jn' := Lib.hid jn; have jb' := Lib.hid jb; clear jf jn jb; refine zab fun K HK => ?_; unfold Oper.wp; simp only [execOp, e84]; go_simp; exact HK.out _ _ ⟨(), _, rfl, rfl, jf'.out, jn'.out, jb'.out⟩
              · intro _ L w' hL hpre hJ a ha
                obtain ⟨jf, jn, jb⟩ := hJ; simp [Region.binds] at hpre; refine .inl ⟨zae (g := 3) (t := 83) (b := false) rfl rfl (evP ha 3 rfl (by simp [hpre]) (by simp) rfl), ?_⟩; have e85 : a.eval (.tmp 85) = .int .i64 f.n := evP ha 5 rfl (by simp [hpre]) (by simp) rfl; clear ha; have cc := HTg.out; have jf' := Lib.hid jf; have jn' := Lib.hid jn; have jb' := Lib.hid jb; clear jf jn jb; refine zab fun K HK => ?_; unfold Oper.wp; simp only [execOp, e85]; go_simp; exact HK.out _ _ ⟨(), _, rfl, rfl, jf'.out, jn'.out, jb'.out⟩
              · intro _ L w' hL hpre hJ a ha
                obtain ⟨jf, jn, jb⟩ := hJ; simp [Region.binds] at hpre; refine .inl ⟨zaa rfl, ?_⟩; have e83 : a.eval (.tmp 83) = .bool false := evP ha 3 rfl (by simp [hpre]) (by simp) rfl; have e86 : a.eval (.tmp 86) = .bool true := evP ha 6 rfl (by simp [hpre]) (by simp) rfl; clear ha; have jf' := Lib.hid jf; have jn' := Lib.hid jn; have jb' := Lib.hid jb; clear jf jn jb; refine zab fun K HK => ?_; unfold Oper.wp; simp only [execOp, e83, e86]; go_simp; exact HK.out _ _ ⟨(), _, rfl, rfl, jf'.out, jn'.out, jb'.out⟩
              · intro _ L w' hL hpre hJ a ha
                obtain ⟨jf, jn, jb⟩ := hJ; simp [Region.binds] at hpre; refine .inl ⟨zaa rfl, ?_⟩; exact zah (.tmp 87) (.inl rfl) (.bool true) (evP ha 7 rfl (by simp [hpre]) (by simp) rfl) ⟨(), _, rfl, rfl, jf, jn, jb⟩
              · intro _ L w' hL hpre hJ a ha
                obtain ⟨jf, jn, jb⟩ := hJ; simp [Region.binds] at hpre; exact .inr ⟨zap (g := 8) (t := 88) (b := false) rfl rfl (evP ha 8 rfl (by simp [hpre]) (by simp) rfl), (), rfl, jf, jn, jb⟩
              · intro _ L w' hL hpre hJ a ha
                obtain ⟨jf, jn, jb⟩ := hJ; simp [Region.binds] at hpre; exact .inr ⟨zap (g := 8) (t := 88) (b := false) rfl rfl (evP ha 8 rfl (by simp [hpre]) (by simp) rfl), (), rfl, jf, jn, jb⟩
              · intro _ L w' hL hpre hJ a ha
                obtain ⟨jf, jn, jb⟩ := hJ; simp [Region.binds] at hpre; exact .inr ⟨zaq (g := 10) (t := 90) (b := true) rfl rfl (evP ha 10 rfl (by simp [hpre]) (by simp) rfl), (), rfl, jf, jn, jb⟩
              · intro _ L w' hL hpre hJ a ha
                obtain ⟨jf, jn, jb⟩ := hJ; simp [Region.binds] at hpre; exact .inr ⟨zaq (g := 10) (t := 90) (b := true) rfl rfl (evP ha 10 rfl (by simp [hpre]) (by simp) rfl), (), rfl, jf, jn, jb⟩
              · intro _ L w' hL hpre hJ a ha
                obtain ⟨jf, jn, jb⟩ := hJ; simp [Region.binds] at hpre; exact .inr ⟨zaq (g := 10) (t := 90) (b := true) rfl rfl (evP ha 10 rfl (by simp [hpre]) (by simp) rfl), (), rfl, jf, jn, jb⟩
              · intro _ L w' hL hpre hJ a ha
                obtain ⟨jf, jn, jb⟩ := hJ; simp [Region.binds] at hpre; exact .inr ⟨zaq (g := 10) (t := 90) (b := true) rfl rfl (evP ha 10 rfl (by simp [hpre]) (by simp) rfl), (), rfl, jf, jn, jb⟩
              · intro _ L w' hL hpre hJ a ha
                obtain ⟨jf, jn, jb⟩ := hJ; simp [Region.binds] at hpre; exact .inr ⟨zaq (g := 10) (t := 90) (b := true) rfl rfl (evP ha 10 rfl (by simp [hpre]) (by simp) rfl), (), rfl, jf, jn, jb⟩
              · intro _ L w' hL hpre hJ a ha
                obtain ⟨jf, jn, jb⟩ := hJ; simp [Region.binds] at hpre; exact .inr ⟨zaq (g := 10) (t := 90) (b := true) rfl rfl (evP ha 10 rfl (by simp [hpre]) (by simp) rfl), (), rfl, jf, jn, jb⟩
              · intro _ L w' hL hpre hJ a ha
                obtain ⟨jf, jn, jb⟩ := hJ; simp [Region.binds] at hpre; exact .inr ⟨zaq (g := 10) (t := 90) (b := true) rfl rfl (evP ha 10 rfl (by simp [hpre]) (by simp) rfl), (), rfl, jf, jn, jb⟩
              · intro _ L w' hL hpre hJ a ha
                obtain ⟨jf, jn, jb⟩ := hJ; simp [Region.binds] at hpre; exact .inr ⟨zaq (g := 10) (t := 90) (b := true) rfl rfl (evP ha 10 rfl (by simp [hpre]) (by simp) rfl), (), rfl, jf, jn, jb⟩
              · intro _ L w' hL hpre hJ a ha
                obtain ⟨jf, jn, jb⟩ := hJ; simp [Region.binds] at hpre; exact .inr ⟨zaq (g := 10) (t := 90) (b := true) rfl rfl (evP ha 10 rfl (by simp [hpre]) (by simp) rfl), (), rfl, jf, jn, jb⟩
              · intro _ L w' hL hpre hJ a ha
                obtain ⟨jf, jn, jb⟩ := hJ; simp [Region.binds] at hpre; exact .inr ⟨zaq (g := 10) (t := 90) (b := true) rfl rfl (evP ha 10 rfl (by simp [hpre]) (by simp) rfl), (), rfl, jf, jn, jb⟩
              · intro _ L w' hL hpre hJ a ha
                obtain ⟨jf, jn, jb⟩ := hJ; simp [Region.binds] at hpre; exact .inr ⟨zap (g := 8) (t := 88) (b := false) rfl rfl (evP ha 8 rfl (by simp [hpre]) (by simp) rfl), (), rfl, jf, jn, jb⟩
              · intro _ L w' hL hpre hJ a ha
                obtain ⟨jf, jn, jb⟩ := hJ; simp [Region.binds] at hpre; refine .inl ⟨zaa rfl, ?_⟩; have e88 : a.eval (.tmp 88) = .bool true := evP ha 8 rfl (by simp [hpre]) (by simp) rfl; clear ha; have jf' := Lib.hid jf; have jn' := Lib.hid jn; have jb' := Lib.hid jb; clear jf jn jb; refine zab fun K HK => ?_; unfold Oper.wp; simp only [execOp, e88]; go_simp; exact HK.out _ _ ⟨(), _, rfl, rfl, jf'.out, jn'.out, jb'.out⟩
            · intro _ L w' hL hJ
              obtain ⟨jf, jn, jb⟩ := hJ; clear hL; simp only [List.foldl_cons, List.foldl_nil]; go_simp; go_wp2_with fail
              go_ret
              exact ⟨by rw [HPL.out.1]; rfl, ⟨Y, Nat.le_succ _, by rw [HPL.out.2]; exact jn⟩, HFR.out.trans (Fr.of_below jb)⟩
          · have HTg := Lib.hid (show decide (32 ≤ f.n) = false from decide_eq_false hg)
            by_cases hqM : q < M
            · have hth : there = true := by rw [HTH.out]; simp; exact hqM
              subst hth; obtain ⟨gc, cp', e, -, -⟩ := za7 (HN3.out.body.rows d b HDN.out HBN.out).1 (by rw [← HMe.out]; omega); rw [← HMe.out] at e; rw [HCV0.out] at e; cases e
              obtain ⟨c, hcm⟩ : ∃ c, (N.blk d b).cells[q]? = some c := ⟨_, List.getElem?_eq_getElem (by rw [← HMe.out]; exact hqM)⟩; have hc32 := HN3.out.ok.page d b c (List.mem_of_getElem? hcm); have HCV := HCV0; have HCV' := Lib.hid (show Y.cv d b = .slice (some ⟨gc, 0, none⟩) (N.blk d b).cells.length cp by rw [← HMe.out]; exact HCV0.out); have HCM := Lib.hid hcm; have HqM := Lib.hid (show (q : Int) < (M : Int) by omega); have HC33 := Lib.hid (show c.v[33]? = some (.bool c.turned) by rw [Cel.v, List.getElem?_append_right (by rw [zaj, hc32.1]; decide), zaj, hc32.1]; rfl); have HC32 := Lib.hid (show c.v[32]? = some (.bool c.lost) by rw [Cel.v, List.getElem?_append_right (by rw [zaj, hc32.1]; exact Nat.le_refl _), zaj, hc32.1]; rfl); have H32 := Lib.hid hc32; have HN0 := Lib.hid (show 0 ≤ f.n ∧ f.n < 32 by omega); have HK5 := Lib.hid hk5; clear hc32 hcm hqM hg hl hl0 hk1 hk2 hk3 hk4 hk5; cases htu : c.turned with
              | true =>
               have HPL := Lib.hid (HPF.out.k5b c HK5.out HN0.out.1 HN0.out.2 HCM.out htu); rw [htu] at HC33; clear htu; go_upto_region 17 with fail
               refine zan (by kernel_rfl) (by kernel_rfl) (X := Unit) (fun _ => [(some 80, .pointer (some ⟨w.heap.size, 5, none⟩)), (some 81, .int .i64 f.n), (some 82, .bool false), (some 83, .bool false), (some 84, .pointer (some ⟨w.heap.size, 5, none⟩)), (some 85, .int .i64 f.n), (some 86, .bool false), (some 87, .bool false), (some 88, .bool false), (some 89, .bool true), (some 90, .bool true), (some 91, .pointer (some ⟨Y.q d b, 0, none⟩)), (some 92, .pointer (some ⟨Y.q d b, 0, none⟩)), (some 93, .pointer (some ⟨Y.q d b, 0, none⟩)), (some 94, .slice (some ⟨gc, 0, none⟩) M cp), (some 95, .pointer (some ⟨w.heap.size, 2, none⟩)), (some 96, .pointer (some ⟨w.heap.size, 4, none⟩)), (some 97, .int .i64 (q : Int)), (some 98, .pointer (some ⟨gc, q * 34, none⟩)), (some 99, .pointer (some ⟨gc, q * 34 + 33, none⟩)), (some 100, .bool true), (some 101, .bool true), (some 102, .bool true)])
                (fun _ L w' => w'.heap[w.heap.size]? = some (.cells f.v.toArray 87 (0, 0)) ∧ NandAt w' base g Y N ∧ Below ws.heap.size ws w') (fun _ => rfl) (by kernel_rfl) ⟨(), fun _ _ => ⟨HF.out, HN4.out.drew, (Below.refl _ ws).drew⟩⟩ ?_ ?_
               · refine ⟨?_, ?_, ?_, ?_, ?_, ?_, ?_, ?_, ?_, ?_, ?_, ?_, ?_, ?_, ?_, ?_, ?_, ?_, ?_, ?_, ?_, ?_, ?_, trivial⟩
                 · intro _ L w' hL hpre hJ a ha
                   obtain ⟨jf, jn, jb⟩ := hJ; simp [Region.binds] at hpre; refine .inl ⟨zaa rfl, ?_⟩; have e3 : a.eval (.tmp 3) = .pointer (some ⟨w.heap.size, 0, none⟩) := by rw [ha, zac rfl]; rfl
                   clear ha; have jf' := Lib.hid jf; have jn' := Lib.hid jn; have jb' := Lib.hid jb; clear jf jn jb; refine zab fun K HK => ?_; unfold Oper.wp; simp only [execOp, e3]; go_simp; exact HK.out _ _ ⟨(), _, rfl, rfl, jf'.out, jn'.out, jb'.out⟩
                 · intro _ L w' hL hpre hJ a ha
                   obtain ⟨jf, jn, jb⟩ := hJ; simp [Region.binds] at hpre; refine .inl ⟨zaa rfl, ?_⟩; have e80 : a.eval (.tmp 80) = .pointer (some ⟨w.heap.size, 5, none⟩) := evP ha 0 rfl (by simp [hpre]) (by simp) rfl; clear ha; have cc := flt_c5 jf; have jf' := Lib.hid jf; have jn' := Lib.hid jn; have jb' := Lib.hid jb; clear jf jn jb; refine zab fun K HK => ?_; unfold Oper.wp; simp only [execOp, e80]; go_simp; exact HK.out _ _ ⟨(), _, rfl, rfl, jf'.out, jn'.out, jb'.out⟩
                 · intro _ L w' hL hpre hJ a ha
                   obtain ⟨jf, jn, jb⟩ := hJ; simp [Region.binds] at hpre; refine .inl ⟨zaa rfl, ?_⟩; have e81 : a.eval (.tmp 81) = .int .i64 f.n := evP ha 1 rfl (by simp [hpre]) (by simp) rfl; clear ha; have cc := HTl.out; have jf' := Lib.hid jf; have jn' := Lib.hid jn; have jb' := Lib.hid jb; clear jf jn jb; refine zab fun K HK => ?_; unfold Oper.wp; simp only [execOp, e81]; go_simp; exact HK.out _ _ ⟨(), _, rfl, rfl, jf'.out, jn'.out, jb'.out⟩
                 · intro _ L w' hL hpre hJ a ha
                   obtain ⟨jf, jn, jb⟩ := hJ; simp [Region.binds] at hpre; refine .inl ⟨zaa rfl, ?_⟩; exact zah (.tmp 82) (.inl rfl) (.bool false) (evP ha 2 rfl (by simp [hpre]) (by simp) rfl) ⟨(), _, rfl, rfl, jf, jn, jb⟩
                 · intro _ L w' hL hpre hJ a ha
                   obtain ⟨jf, jn, jb⟩ := hJ; simp [Region.binds] at hpre; refine .inl ⟨zae (g := 3) (t := 83) (b := false) rfl rfl (evP ha 3 rfl (by simp [hpre]) (by simp) rfl), ?_⟩; have e3 : a.eval (.tmp 3) = .pointer (some ⟨w.heap.size, 0, none⟩) := by rw [ha, zac rfl]; rfl
                   clear ha; have jf' := Lib.hid jf; have jn' := Lib.hid jn; have jb' := Lib.hid jb; clear jf jn jb; refine zab fun K HK => ?_; unfold Oper.wp; simp only [execOp, e3]; go_simp; exact HK.out _ _ ⟨(), _, rfl, rfl, jf'.out, jn'.out, jb'.out⟩
                 · intro _ L w' hL hpre hJ a ha
                   obtain ⟨jf, jn, jb⟩ := hJ; simp [Region.binds] at hpre; refine .inl ⟨zae (g := 3) (t := 83) (b := false) rfl rfl (evP ha 3 rfl (by simp [hpre]) (by simp) rfl), ?_⟩; have e84 : a.eval (.tmp 84) = .pointer (some ⟨w.heap.size, 5, none⟩) := evP ha 4 rfl (by simp [hpre]) (by simp) rfl; clear ha; have cc := flt_c5 jf; have jf' := Lib.hid jf; have jn' := Lib.hid jn; have jb' := Lib.hid jb; clear jf jn jb; refine zab fun K HK => ?_; unfold Oper.wp; simp only [execOp, e84]; go_simp; exact HK.out _ _ ⟨(), _, rfl, rfl, jf'.out, jn'.out, jb'.out⟩
                 · intro _ L w' hL hpre hJ a ha
                   obtain ⟨jf, jn, jb⟩ := hJ; simp [Region.binds] at hpre; refine .inl ⟨zae (g := 3) (t := 83) (b := false) rfl rfl (evP ha 3 rfl (by simp [hpre]) (by simp) rfl), ?_⟩; have e85 : a.eval (.tmp 85) = .int .i64 f.n := evP ha 5 rfl (by simp [hpre]) (by simp) rfl; clear ha; have cc := HTg.out; have jf' := Lib.hid jf; have jn' := Lib.hid jn; have jb' := Lib.hid jb; clear jf jn jb; refine zab fun K HK => ?_; unfold Oper.wp; simp only [execOp, e85]; go_simp; exact HK.out _ _ ⟨(), _, rfl, rfl, jf'.out, jn'.out, jb'.out⟩
                 · intro _ L w' hL hpre hJ a ha
                   obtain ⟨jf, jn, jb⟩ := hJ; simp [Region.binds] at hpre; refine .inl ⟨zaa rfl, ?_⟩; have e83 : a.eval (.tmp 83) = .bool false := evP ha 3 rfl (by simp [hpre]) (by simp) rfl; have e86 : a.eval (.tmp 86) = .bool false := evP ha 6 rfl (by simp [hpre]) (by simp) rfl; clear ha; have jf' := Lib.hid jf; have jn' := Lib.hid jn; have jb' := Lib.hid jb; clear jf jn jb; refine zab fun K HK => ?_; unfold Oper.wp; simp only [execOp, e83, e86]; go_simp; exact HK.out _ _ ⟨(), _, rfl, rfl, jf'.out, jn'.out, jb'.out⟩
                 · intro _ L w' hL hpre hJ a ha
                   obtain ⟨jf, jn, jb⟩ := hJ; simp [Region.binds] at hpre; refine .inl ⟨zaa rfl, ?_⟩; exact zah (.tmp 87) (.inl rfl) (.bool false) (evP ha 7 rfl (by simp [hpre]) (by simp) rfl) ⟨(), _, rfl, rfl, jf, jn, jb⟩
                 · intro _ L w' hL hpre hJ a ha
                   obtain ⟨jf, jn, jb⟩ := hJ; simp [Region.binds] at hpre; refine .inl ⟨zae (g := 8) (t := 88) (b := false) rfl rfl (evP ha 8 rfl (by simp [hpre]) (by simp) rfl), ?_⟩; exact zah (.tmp 6) (.inl rfl) (.bool true) (by rw [ha, zac rfl]; rfl) ⟨(), _, rfl, rfl, jf, jn, jb⟩
                 · intro _ L w' hL hpre hJ a ha
                   obtain ⟨jf, jn, jb⟩ := hJ; simp [Region.binds] at hpre; refine .inl ⟨zae (g := 8) (t := 88) (b := false) rfl rfl (evP ha 8 rfl (by simp [hpre]) (by simp) rfl), ?_⟩; exact zah (.tmp 89) (.inl rfl) (.bool true) (evP ha 9 rfl (by simp [hpre]) (by simp) rfl) ⟨(), _, rfl, rfl, jf, jn, jb⟩
                 · intro _ L w' hL hpre hJ a ha
                   obtain ⟨jf, jn, jb⟩ := hJ; simp [Region.binds] at hpre; refine .inl ⟨zae (g := 10) (t := 90) (b := true) rfl rfl (evP ha 10 rfl (by simp [hpre]) (by simp) rfl), ?_⟩; exact zah (.tmp 5) (.inl rfl) (.pointer (some ⟨Y.q d b, 0, none⟩)) (by rw [ha, zac rfl]; rfl) ⟨(), _, rfl, rfl, jf, jn, jb⟩
                 · intro _ L w' hL hpre hJ a ha
                   obtain ⟨jf, jn, jb⟩ := hJ; simp [Region.binds] at hpre; refine .inl ⟨zae (g := 10) (t := 90) (b := true) rfl rfl (evP ha 10 rfl (by simp [hpre]) (by simp) rfl), ?_⟩; have e91 : a.eval (.tmp 91) = .pointer (some ⟨Y.q d b, 0, none⟩) := evP ha 11 rfl (by simp [hpre]) (by simp) rfl; clear ha; have jf' := Lib.hid jf; have jn' := Lib.hid jn; have jb' := Lib.hid jb; clear jf jn jb; refine zab fun K HK => ?_; unfold Oper.wp; simp only [execOp, e91]; go_simp; exact HK.out _ _ ⟨(), _, rfl, rfl, jf'.out, jn'.out, jb'.out⟩
                 · intro _ L w' hL hpre hJ a ha
                   obtain ⟨jf, jn, jb⟩ := hJ; simp [Region.binds] at hpre; refine .inl ⟨zae (g := 10) (t := 90) (b := true) rfl rfl (evP ha 10 rfl (by simp [hpre]) (by simp) rfl), ?_⟩; have e92 : a.eval (.tmp 92) = .pointer (some ⟨Y.q d b, 0, none⟩) := evP ha 12 rfl (by simp [hpre]) (by simp) rfl; clear ha; have jf' := Lib.hid jf; have jn' := Lib.hid jn; have jb' := Lib.hid jb; clear jf jn jb; refine zab fun K HK => ?_; unfold Oper.wp; simp only [execOp, e92]; go_simp; exact HK.out _ _ ⟨(), _, rfl, rfl, jf'.out, jn'.out, jb'.out⟩
                 · intro _ L w' hL hpre hJ a ha
                   obtain ⟨jf, jn, jb⟩ := hJ; simp [Region.binds] at hpre; refine .inl ⟨zae (g := 10) (t := 90) (b := true) rfl rfl (evP ha 10 rfl (by simp [hpre]) (by simp) rfl), ?_⟩; have e93 : a.eval (.tmp 93) = .pointer (some ⟨Y.q d b, 0, none⟩) := evP ha 13 rfl (by simp [hpre]) (by simp) rfl; clear ha; have cc := blk_c0 jn HDN.out HBN.out; rw [HCV.out] at cc; have jf' := Lib.hid jf; have jn' := Lib.hid jn; have jb' := Lib.hid jb; clear jf jn jb; refine zab fun K HK => ?_; unfold Oper.wp; simp only [execOp, e93]; go_simp; exact HK.out _ _ ⟨(), _, rfl, rfl, jf'.out, jn'.out, jb'.out⟩
                 · intro _ L w' hL hpre hJ a ha
                   obtain ⟨jf, jn, jb⟩ := hJ; simp [Region.binds] at hpre; refine .inl ⟨zae (g := 10) (t := 90) (b := true) rfl rfl (evP ha 10 rfl (by simp [hpre]) (by simp) rfl), ?_⟩; have e3 : a.eval (.tmp 3) = .pointer (some ⟨w.heap.size, 0, none⟩) := by rw [ha, zac rfl]; rfl
                   clear ha; have jf' := Lib.hid jf; have jn' := Lib.hid jn; have jb' := Lib.hid jb; clear jf jn jb; refine zab fun K HK => ?_; unfold Oper.wp; simp only [execOp, e3]; go_simp; exact HK.out _ _ ⟨(), _, rfl, rfl, jf'.out, jn'.out, jb'.out⟩
                 · intro _ L w' hL hpre hJ a ha
                   obtain ⟨jf, jn, jb⟩ := hJ; simp [Region.binds] at hpre; refine .inl ⟨zae (g := 10) (t := 90) (b := true) rfl rfl (evP ha 10 rfl (by simp [hpre]) (by simp) rfl), ?_⟩; have e95 : a.eval (.tmp 95) = .pointer (some ⟨w.heap.size, 2, none⟩) := evP ha 15 rfl (by simp [hpre]) (by simp) rfl; clear ha; have jf' := Lib.hid jf; have jn' := Lib.hid jn; have jb' := Lib.hid jb; clear jf jn jb; refine zab fun K HK => ?_; unfold Oper.wp; simp only [execOp, e95]; go_simp; exact HK.out _ _ ⟨(), _, rfl, rfl, jf'.out, jn'.out, jb'.out⟩
                 · intro _ L w' hL hpre hJ a ha
                   obtain ⟨jf, jn, jb⟩ := hJ; simp [Region.binds] at hpre; refine .inl ⟨zae (g := 10) (t := 90) (b := true) rfl rfl (evP ha 10 rfl (by simp [hpre]) (by simp) rfl), ?_⟩; have e96 : a.eval (.tmp 96) = .pointer (some ⟨w.heap.size, 4, none⟩) := evP ha 16 rfl (by simp [hpre]) (by simp) rfl; clear ha; have cc := flt_c4 jf; rw [HQ.out] at cc; have jf' := Lib.hid jf; have jn' := Lib.hid jn; have jb' := Lib.hid jb; clear jf jn jb; refine zab fun K HK => ?_; unfold Oper.wp; simp only [execOp, e96]; go_simp; exact HK.out _ _ ⟨(), _, rfl, rfl, jf'.out, jn'.out, jb'.out⟩
                 · intro _ L w' hL hpre hJ a ha
                   obtain ⟨jf, jn, jb⟩ := hJ; simp [Region.binds] at hpre; refine .inl ⟨zae (g := 10) (t := 90) (b := true) rfl rfl (evP ha 10 rfl (by simp [hpre]) (by simp) rfl), ?_⟩; have e94 : a.eval (.tmp 94) = .slice (some ⟨gc, 0, none⟩) M cp := evP ha 14 rfl (by simp [hpre]) (by simp) rfl; have e97 : a.eval (.tmp 97) = .int .i64 (q : Int) := evP ha 17 rfl (by simp [hpre]) (by simp) rfl; clear ha; have cM := HqM.out; have jf' := Lib.hid jf; have jn' := Lib.hid jn; have jb' := Lib.hid jb; clear jf jn jb; refine zab fun K HK => ?_; unfold Oper.wp; simp only [execOp, e94, e97]; go_simp; exact HK.out _ _ ⟨(), _, rfl, rfl, jf'.out, jn'.out, jb'.out⟩
                 · intro _ L w' hL hpre hJ a ha
                   obtain ⟨jf, jn, jb⟩ := hJ; simp [Region.binds] at hpre; refine .inl ⟨zae (g := 10) (t := 90) (b := true) rfl rfl (evP ha 10 rfl (by simp [hpre]) (by simp) rfl), ?_⟩; have e98 : a.eval (.tmp 98) = .pointer (some ⟨gc, q * 34, none⟩) := evP ha 18 rfl (by simp [hpre]) (by simp) rfl; clear ha; have jf' := Lib.hid jf; have jn' := Lib.hid jn; have jb' := Lib.hid jb; clear jf jn jb; refine zab fun K HK => ?_; unfold Oper.wp; simp only [execOp, e98]; go_simp; exact HK.out _ _ ⟨(), _, rfl, rfl, jf'.out, jn'.out, jb'.out⟩
                 · intro _ L w' hL hpre hJ a ha
                   obtain ⟨jf, jn, jb⟩ := hJ; simp [Region.binds] at hpre; refine .inl ⟨zae (g := 10) (t := 90) (b := true) rfl rfl (evP ha 10 rfl (by simp [hpre]) (by simp) rfl), ?_⟩; have e99 : a.eval (.tmp 99) = .pointer (some ⟨gc, q * 34 + 33, none⟩) := evP ha 19 rfl (by simp [hpre]) (by simp) rfl; clear ha; have cc := (jn.inCell HDN.out HBN.out HCV'.out HCM.out HC33.out).1; have jf' := Lib.hid jf; have jn' := Lib.hid jn; have jb' := Lib.hid jb; clear jf jn jb; refine zab fun K HK => ?_; unfold Oper.wp; simp only [execOp, e99]; go_simp; exact HK.out _ _ ⟨(), _, rfl, rfl, jf'.out, jn'.out, jb'.out⟩
                 · intro _ L w' hL hpre hJ a ha
                   obtain ⟨jf, jn, jb⟩ := hJ; simp [Region.binds] at hpre; refine .inl ⟨zae (g := 8) (t := 88) (b := false) rfl rfl (evP ha 8 rfl (by simp [hpre]) (by simp) rfl), ?_⟩; have e90 : a.eval (.tmp 90) = .bool true := evP ha 10 rfl (by simp [hpre]) (by simp) rfl; have e100 : a.eval (.tmp 100) = .bool true := evP ha 20 rfl (by simp [hpre]) (by simp) rfl; clear ha; have jf' := Lib.hid jf; have jn' := Lib.hid jn; have jb' := Lib.hid jb; clear jf jn jb; refine zab fun K HK => ?_; unfold Oper.wp; simp only [execOp, e90, e100]; go_simp; exact HK.out _ _ ⟨(), _, rfl, rfl, jf'.out, jn'.out, jb'.out⟩
                 · intro _ L w' hL hpre hJ a ha
                   obtain ⟨jf, jn, jb⟩ := hJ; simp [Region.binds] at hpre; refine .inl ⟨zaa rfl, ?_⟩; have e88 : a.eval (.tmp 88) = .bool false := evP ha 8 rfl (by simp [hpre]) (by simp) rfl; have e101 : a.eval (.tmp 101) = .bool true := evP ha 21 rfl (by simp [hpre]) (by simp) rfl; clear ha; have jf' := Lib.hid jf; have jn' := Lib.hid jn; have jb' := Lib.hid jb; clear jf jn jb; refine zab fun K HK => ?_; unfold Oper.wp; simp only [execOp, e88, e101]; go_simp; exact HK.out _ _ ⟨(), _, rfl, rfl, jf'.out, jn'.out, jb'.out⟩
               · intro _ L w' hL hJ
                 obtain ⟨jf, jn, jb⟩ := hJ; clear hL; simp only [List.foldl_cons, List.foldl_nil]; go_simp; go_wp2_with fail
                 go_ret
                 exact ⟨by rw [HPL.out.1]; rfl, ⟨Y, Nat.le_succ _, by rw [HPL.out.2]; exact jn⟩, HFR.out.trans (Fr.of_below jb)⟩
              | false =>
               rw [htu] at HC33; have HTU := Lib.hid htu; clear htu; go_upto_region 17 with fail
               refine zan (by kernel_rfl) (by kernel_rfl) (X := Unit) (fun _ => [(some 80, .pointer (some ⟨w.heap.size, 5, none⟩)), (some 81, .int .i64 f.n), (some 82, .bool false), (some 83, .bool false), (some 84, .pointer (some ⟨w.heap.size, 5, none⟩)), (some 85, .int .i64 f.n), (some 86, .bool false), (some 87, .bool false), (some 88, .bool false), (some 89, .bool true), (some 90, .bool true), (some 91, .pointer (some ⟨Y.q d b, 0, none⟩)), (some 92, .pointer (some ⟨Y.q d b, 0, none⟩)), (some 93, .pointer (some ⟨Y.q d b, 0, none⟩)), (some 94, .slice (some ⟨gc, 0, none⟩) M cp), (some 95, .pointer (some ⟨w.heap.size, 2, none⟩)), (some 96, .pointer (some ⟨w.heap.size, 4, none⟩)), (some 97, .int .i64 (q : Int)), (some 98, .pointer (some ⟨gc, q * 34, none⟩)), (some 99, .pointer (some ⟨gc, q * 34 + 33, none⟩)), (some 100, .bool false), (some 101, .bool false), (some 102, .bool false)])
                (fun _ L w' => w'.heap[w.heap.size]? = some (.cells f.v.toArray 87 (0, 0)) ∧ NandAt w' base g Y N ∧ Below ws.heap.size ws w') (fun _ => rfl) (by kernel_rfl) ⟨(), fun _ _ => ⟨HF.out, HN4.out.drew, (Below.refl _ ws).drew⟩⟩ ?_ ?_
               · refine ⟨?_, ?_, ?_, ?_, ?_, ?_, ?_, ?_, ?_, ?_, ?_, ?_, ?_, ?_, ?_, ?_, ?_, ?_, ?_, ?_, ?_, ?_, ?_, trivial⟩
                 · intro _ L w' hL hpre hJ a ha
                   obtain ⟨jf, jn, jb⟩ := hJ; simp [Region.binds] at hpre; refine .inl ⟨zaa rfl, ?_⟩; have e3 : a.eval (.tmp 3) = .pointer (some ⟨w.heap.size, 0, none⟩) := by rw [ha, zac rfl]; rfl
                   clear ha; have jf' := Lib.hid jf; have jn' := Lib.hid jn; have jb' := Lib.hid jb; clear jf jn jb; refine zab fun K HK => ?_; unfold Oper.wp; simp only [execOp, e3]; go_simp; exact HK.out _ _ ⟨(), _, rfl, rfl, jf'.out, jn'.out, jb'.out⟩
                 · intro _ L w' hL hpre hJ a ha
                   obtain ⟨jf, jn, jb⟩ := hJ; simp [Region.binds] at hpre; refine .inl ⟨zaa rfl, ?_⟩; have e80 : a.eval (.tmp 80) = .pointer (some ⟨w.heap.size, 5, none⟩) := evP ha 0 rfl (by simp [hpre]) (by simp) rfl; clear ha; have cc := flt_c5 jf; have jf' := Lib.hid jf; have jn' := Lib.hid jn; have jb' := Lib.hid jb; clear jf jn jb; refine zab fun K HK => ?_; unfold Oper.wp; simp only [execOp, e80]; go_simp; exact HK.out _ _ ⟨(), _, rfl, rfl, jf'.out, jn'.out, jb'.out⟩
                 · intro _ L w' hL hpre hJ a ha
                   obtain ⟨jf, jn, jb⟩ := hJ; simp [Region.binds] at hpre; refine .inl ⟨zaa rfl, ?_⟩; have e81 : a.eval (.tmp 81) = .int .i64 f.n := evP ha 1 rfl (by simp [hpre]) (by simp) rfl; clear ha; have cc := HTl.out; have jf' := Lib.hid jf; have jn' := Lib.hid jn; have jb' := Lib.hid jb; clear jf jn jb; refine zab fun K HK => ?_; unfold Oper.wp; simp only [execOp, e81]; go_simp; exact HK.out _ _ ⟨(), _, rfl, rfl, jf'.out, jn'.out, jb'.out⟩
                 · intro _ L w' hL hpre hJ a ha
                   obtain ⟨jf, jn, jb⟩ := hJ; simp [Region.binds] at hpre; refine .inl ⟨zaa rfl, ?_⟩; exact zah (.tmp 82) (.inl rfl) (.bool false) (evP ha 2 rfl (by simp [hpre]) (by simp) rfl) ⟨(), _, rfl, rfl, jf, jn, jb⟩
                 · intro _ L w' hL hpre hJ a ha
                   obtain ⟨jf, jn, jb⟩ := hJ; simp [Region.binds] at hpre; refine .inl ⟨zae (g := 3) (t := 83) (b := false) rfl rfl (evP ha 3 rfl (by simp [hpre]) (by simp) rfl), ?_⟩; have e3 : a.eval (.tmp 3) = .pointer (some ⟨w.heap.size, 0, none⟩) := by rw [ha, zac rfl]; rfl
                   clear ha; have jf' := Lib.hid jf; have jn' := Lib.hid jn; have jb' := Lib.hid jb; clear jf jn jb; refine zab fun K HK => ?_; unfold Oper.wp; simp only [execOp, e3]; go_simp; exact HK.out _ _ ⟨(), _, rfl, rfl, jf'.out, jn'.out, jb'.out⟩
                 · intro _ L w' hL hpre hJ a ha
                   obtain ⟨jf, jn, jb⟩ := hJ; simp [Region.binds] at hpre; refine .inl ⟨zae (g := 3) (t := 83) (b := false) rfl rfl (evP ha 3 rfl (by simp [hpre]) (by simp) rfl), ?_⟩; have e84 : a.eval (.tmp 84) = .pointer (some ⟨w.heap.size, 5, none⟩) := evP ha 4 rfl (by simp [hpre]) (by simp) rfl; clear ha; have cc := flt_c5 jf; have jf' := Lib.hid jf; have jn' := Lib.hid jn; have jb' := Lib.hid jb; clear jf jn jb; refine zab fun K HK => ?_; unfold Oper.wp; simp only [execOp, e84]; go_simp; exact HK.out _ _ ⟨(), _, rfl, rfl, jf'.out, jn'.out, jb'.out⟩
                 · intro _ L w' hL hpre hJ a ha
                   obtain ⟨jf, jn, jb⟩ := hJ; simp [Region.binds] at hpre; refine .inl ⟨zae (g := 3) (t := 83) (b := false) rfl rfl (evP ha 3 rfl (by simp [hpre]) (by simp) rfl), ?_⟩; have e85 : a.eval (.tmp 85) = .int .i64 f.n := evP ha 5 rfl (by simp [hpre]) (by simp) rfl; clear ha; have cc := HTg.out; have jf' := Lib.hid jf; have jn' := Lib.hid jn; have jb' := Lib.hid jb; clear jf jn jb; refine zab fun K HK => ?_; unfold Oper.wp; simp only [execOp, e85]; go_simp; exact HK.out _ _ ⟨(), _, rfl, rfl, jf'.out, jn'.out, jb'.out⟩
                 · intro _ L w' hL hpre hJ a ha
                   obtain ⟨jf, jn, jb⟩ := hJ; simp [Region.binds] at hpre; refine .inl ⟨zaa rfl, ?_⟩; have e83 : a.eval (.tmp 83) = .bool false := evP ha 3 rfl (by simp [hpre]) (by simp) rfl; have e86 : a.eval (.tmp 86) = .bool false := evP ha 6 rfl (by simp [hpre]) (by simp) rfl; clear ha; have jf' := Lib.hid jf; have jn' := Lib.hid jn; have jb' := Lib.hid jb; clear jf jn jb; refine zab fun K HK => ?_; unfold Oper.wp; simp only [execOp, e83, e86]; go_simp; exact HK.out _ _ ⟨(), _, rfl, rfl, jf'.out, jn'.out, jb'.out⟩
                 · intro _ L w' hL hpre hJ a ha
                   obtain ⟨jf, jn, jb⟩ := hJ; simp [Region.binds] at hpre; refine .inl ⟨zaa rfl, ?_⟩; exact zah (.tmp 87) (.inl rfl) (.bool false) (evP ha 7 rfl (by simp [hpre]) (by simp) rfl) ⟨(), _, rfl, rfl, jf, jn, jb⟩
                 · intro _ L w' hL hpre hJ a ha
                   obtain ⟨jf, jn, jb⟩ := hJ; simp [Region.binds] at hpre; refine .inl ⟨zae (g := 8) (t := 88) (b := false) rfl rfl (evP ha 8 rfl (by simp [hpre]) (by simp) rfl), ?_⟩; exact zah (.tmp 6) (.inl rfl) (.bool true) (by rw [ha, zac rfl]; rfl) ⟨(), _, rfl, rfl, jf, jn, jb⟩
                 · intro _ L w' hL hpre hJ a ha
                   obtain ⟨jf, jn, jb⟩ := hJ; simp [Region.binds] at hpre; refine .inl ⟨zae (g := 8) (t := 88) (b := false) rfl rfl (evP ha 8 rfl (by simp [hpre]) (by simp) rfl), ?_⟩; exact zah (.tmp 89) (.inl rfl) (.bool true) (evP ha 9 rfl (by simp [hpre]) (by simp) rfl) ⟨(), _, rfl, rfl, jf, jn, jb⟩
                 · intro _ L w' hL hpre hJ a ha
                   obtain ⟨jf, jn, jb⟩ := hJ; simp [Region.binds] at hpre; refine .inl ⟨zae (g := 10) (t := 90) (b := true) rfl rfl (evP ha 10 rfl (by simp [hpre]) (by simp) rfl), ?_⟩; exact zah (.tmp 5) (.inl rfl) (.pointer (some ⟨Y.q d b, 0, none⟩)) (by rw [ha, zac rfl]; rfl) ⟨(), _, rfl, rfl, jf, jn, jb⟩
                 · intro _ L w' hL hpre hJ a ha
                   obtain ⟨jf, jn, jb⟩ := hJ; simp [Region.binds] at hpre; refine .inl ⟨zae (g := 10) (t := 90) (b := true) rfl rfl (evP ha 10 rfl (by simp [hpre]) (by simp) rfl), ?_⟩; have e91 : a.eval (.tmp 91) = .pointer (some ⟨Y.q d b, 0, none⟩) := evP ha 11 rfl (by simp [hpre]) (by simp) rfl; clear ha; have jf' := Lib.hid jf; have jn' := Lib.hid jn; have jb' := Lib.hid jb; clear jf jn jb; refine zab fun K HK => ?_; unfold Oper.wp; simp only [execOp, e91]; go_simp; exact HK.out _ _ ⟨(), _, rfl, rfl, jf'.out, jn'.out, jb'.out⟩
                 · intro _ L w' hL hpre hJ a ha
                   obtain ⟨jf, jn, jb⟩ := hJ; simp [Region.binds] at hpre; refine .inl ⟨zae (g := 10) (t := 90) (b := true) rfl rfl (evP ha 10 rfl (by simp [hpre]) (by simp) rfl), ?_⟩; have e92 : a.eval (.tmp 92) = .pointer (some ⟨Y.q d b, 0, none⟩) := evP ha 12 rfl (by simp [hpre]) (by simp) rfl; clear ha; have jf' := Lib.hid jf; have jn' := Lib.hid jn; have jb' := Lib.hid jb; clear jf jn jb; refine zab fun K HK => ?_; unfold Oper.wp; simp only [execOp, e92]; go_simp; exact HK.out _ _ ⟨(), _, rfl, rfl, jf'.out, jn'.out, jb'.out⟩
                 · intro _ L w' hL hpre hJ a ha
                   obtain ⟨jf, jn, jb⟩ := hJ; simp [Region.binds] at hpre; refine .inl ⟨zae (g := 10) (t := 90) (b := true) rfl rfl (evP ha 10 rfl (by simp [hpre]) (by simp) rfl), ?_⟩; have e93 : a.eval (.tmp 93) = .pointer (some ⟨Y.q d b, 0, none⟩) := evP ha 13 rfl (by simp [hpre]) (by simp) rfl; clear ha; have cc := blk_c0 jn HDN.out HBN.out; rw [HCV.out] at cc; have jf' := Lib.hid jf; have jn' := Lib.hid jn; have jb' := Lib.hid jb; clear jf jn jb; refine zab fun K HK => ?_; unfold Oper.wp; simp only [execOp, e93]; go_simp; exact HK.out _ _ ⟨(), _, rfl, rfl, jf'.out, jn'.out, jb'.out⟩
                 · intro _ L w' hL hpre hJ a ha
                   obtain ⟨jf, jn, jb⟩ := hJ; simp [Region.binds] at hpre; refine .inl ⟨zae (g := 10) (t := 90) (b := true) rfl rfl (evP ha 10 rfl (by simp [hpre]) (by simp) rfl), ?_⟩; have e3 : a.eval (.tmp 3) = .pointer (some ⟨w.heap.size, 0, none⟩) := by rw [ha, zac rfl]; rfl
                   clear ha; have jf' := Lib.hid jf; have jn' := Lib.hid jn; have jb' := Lib.hid jb; clear jf jn jb; refine zab fun K HK => ?_; unfold Oper.wp; simp only [execOp, e3]; go_simp; exact HK.out _ _ ⟨(), _, rfl, rfl, jf'.out, jn'.out, jb'.out⟩
                 · intro _ L w' hL hpre hJ a ha
                   obtain ⟨jf, jn, jb⟩ := hJ; simp [Region.binds] at hpre; refine .inl ⟨zae (g := 10) (t := 90) (b := true) rfl rfl (evP ha 10 rfl (by simp [hpre]) (by simp) rfl), ?_⟩; have e95 : a.eval (.tmp 95) = .pointer (some ⟨w.heap.size, 2, none⟩) := evP ha 15 rfl (by simp [hpre]) (by simp) rfl; clear ha; have jf' := Lib.hid jf; have jn' := Lib.hid jn; have jb' := Lib.hid jb; clear jf jn jb; refine zab fun K HK => ?_; unfold Oper.wp; simp only [execOp, e95]; go_simp; exact HK.out _ _ ⟨(), _, rfl, rfl, jf'.out, jn'.out, jb'.out⟩
                 · intro _ L w' hL hpre hJ a ha
                   obtain ⟨jf, jn, jb⟩ := hJ; simp [Region.binds] at hpre; refine .inl ⟨zae (g := 10) (t := 90) (b := true) rfl rfl (evP ha 10 rfl (by simp [hpre]) (by simp) rfl), ?_⟩; have e96 : a.eval (.tmp 96) = .pointer (some ⟨w.heap.size, 4, none⟩) := evP ha 16 rfl (by simp [hpre]) (by simp) rfl; clear ha; have cc := flt_c4 jf; rw [HQ.out] at cc; have jf' := Lib.hid jf; have jn' := Lib.hid jn; have jb' := Lib.hid jb; clear jf jn jb; refine zab fun K HK => ?_; unfold Oper.wp; simp only [execOp, e96]; go_simp; exact HK.out _ _ ⟨(), _, rfl, rfl, jf'.out, jn'.out, jb'.out⟩
                 · intro _ L w' hL hpre hJ a ha
                   obtain ⟨jf, jn, jb⟩ := hJ; simp [Region.binds] at hpre; refine .inl ⟨zae (g := 10) (t := 90) (b := true) rfl rfl (evP ha 10 rfl (by simp [hpre]) (by simp) rfl), ?_⟩; have e94 : a.eval (.tmp 94) = .slice (some ⟨gc, 0, none⟩) M cp := evP ha 14 rfl (by simp [hpre]) (by simp) rfl; have e97 : a.eval (.tmp 97) = .int .i64 (q : Int) := evP ha 17 rfl (by simp [hpre]) (by simp) rfl; clear ha; have cM := HqM.out; have jf' := Lib.hid jf; have jn' := Lib.hid jn; have jb' := Lib.hid jb; clear jf jn jb; refine zab fun K HK => ?_; unfold Oper.wp; simp only [execOp, e94, e97]; go_simp; exact HK.out _ _ ⟨(), _, rfl, rfl, jf'.out, jn'.out, jb'.out⟩
                 · intro _ L w' hL hpre hJ a ha
                   obtain ⟨jf, jn, jb⟩ := hJ; simp [Region.binds] at hpre; refine .inl ⟨zae (g := 10) (t := 90) (b := true) rfl rfl (evP ha 10 rfl (by simp [hpre]) (by simp) rfl), ?_⟩; have e98 : a.eval (.tmp 98) = .pointer (some ⟨gc, q * 34, none⟩) := evP ha 18 rfl (by simp [hpre]) (by simp) rfl; clear ha; have jf' := Lib.hid jf; have jn' := Lib.hid jn; have jb' := Lib.hid jb; clear jf jn jb; refine zab fun K HK => ?_; unfold Oper.wp; simp only [execOp, e98]; go_simp; exact HK.out _ _ ⟨(), _, rfl, rfl, jf'.out, jn'.out, jb'.out⟩
                 · intro _ L w' hL hpre hJ a ha
                   obtain ⟨jf, jn, jb⟩ := hJ; simp [Region.binds] at hpre; refine .inl ⟨zae (g := 10) (t := 90) (b := true) rfl rfl (evP ha 10 rfl (by simp [hpre]) (by simp) rfl), ?_⟩; have e99 : a.eval (.tmp 99) = .pointer (some ⟨gc, q * 34 + 33, none⟩) := evP ha 19 rfl (by simp [hpre]) (by simp) rfl; clear ha; have cc := (jn.inCell HDN.out HBN.out HCV'.out HCM.out HC33.out).1; have jf' := Lib.hid jf; have jn' := Lib.hid jn; have jb' := Lib.hid jb; clear jf jn jb; refine zab fun K HK => ?_; unfold Oper.wp; simp only [execOp, e99]; go_simp; exact HK.out _ _ ⟨(), _, rfl, rfl, jf'.out, jn'.out, jb'.out⟩
                 · intro _ L w' hL hpre hJ a ha
                   obtain ⟨jf, jn, jb⟩ := hJ; simp [Region.binds] at hpre; refine .inl ⟨zae (g := 8) (t := 88) (b := false) rfl rfl (evP ha 8 rfl (by simp [hpre]) (by simp) rfl), ?_⟩; have e90 : a.eval (.tmp 90) = .bool true := evP ha 10 rfl (by simp [hpre]) (by simp) rfl; have e100 : a.eval (.tmp 100) = .bool false := evP ha 20 rfl (by simp [hpre]) (by simp) rfl; clear ha; have jf' := Lib.hid jf; have jn' := Lib.hid jn; have jb' := Lib.hid jb; clear jf jn jb; refine zab fun K HK => ?_; unfold Oper.wp; simp only [execOp, e90, e100]; go_simp; exact HK.out _ _ ⟨(), _, rfl, rfl, jf'.out, jn'.out, jb'.out⟩
                 · intro _ L w' hL hpre hJ a ha
                   obtain ⟨jf, jn, jb⟩ := hJ; simp [Region.binds] at hpre; refine .inl ⟨zaa rfl, ?_⟩; have e88 : a.eval (.tmp 88) = .bool false := evP ha 8 rfl (by simp [hpre]) (by simp) rfl; have e101 : a.eval (.tmp 101) = .bool false := evP ha 21 rfl (by simp [hpre]) (by simp) rfl; clear ha; have jf' := Lib.hid jf; have jn' := Lib.hid jn; have jb' := Lib.hid jb; clear jf jn jb; refine zab fun K HK => ?_; unfold Oper.wp; simp only [execOp, e88, e101]; go_simp; exact HK.out _ _ ⟨(), _, rfl, rfl, jf'.out, jn'.out, jb'.out⟩
               · intro _ L w' hL hJ
                 obtain ⟨jf, jn, jb⟩ := hJ; clear hL; simp only [List.foldl_cons, List.foldl_nil]; go_simp; have HN6 := Lib.hid jn; have HFt := Lib.hid (HFR.out.trans (Fr.of_below jb)); have HF7 := Lib.hid jf; clear jn jb jf; clear HF; have HF := HF7; obtain ⟨wt, hwt⟩ : ∃ x : World, x = w' := ⟨_, rfl⟩; subst hwt; cases hlo : c.lost with
                 | true =>
                  have HPL := Lib.hid (HPF.out.k5c c HK5.out HN0.out.1 HN0.out.2 HCM.out HTU.out hlo); rw [hlo] at HC32; clear hlo; go_upto_region 19 with fail
                  refine zan (by kernel_rfl) (by kernel_rfl) (X := Unit) (fun _ => [(some 103, .bool true), (some 104, .bool true), (some 105, .pointer (some ⟨Y.q d b, 0, none⟩)), (some 106, .pointer (some ⟨Y.q d b, 0, none⟩)), (some 107, .pointer (some ⟨Y.q d b, 0, none⟩)), (some 108, .slice (some ⟨gc, 0, none⟩) M cp), (some 109, .pointer (some ⟨w.heap.size, 2, none⟩)), (some 110, .pointer (some ⟨w.heap.size, 4, none⟩)), (some 111, .int .i64 (q : Int)), (some 112, .pointer (some ⟨gc, q * 34, none⟩)), (some 113, .pointer (some ⟨gc, q * 34 + 32, none⟩)), (some 114, .bool true), (some 115, .bool false), (some 116, .bool false)])
                   (fun _ L w' => w'.heap[w.heap.size]? = some (.cells f.v.toArray 87 (0, 0)) ∧ NandAt w' base g Y N ∧ Below wt.heap.size wt w') (fun _ => rfl) (by kernel_rfl) ⟨(), fun _ _ => ⟨HF.out, HN6.out.drew, (Below.refl _ wt).drew⟩⟩ ?_ ?_
                  · refine ⟨?_, ?_, ?_, ?_, ?_, ?_, ?_, ?_, ?_, ?_, ?_, ?_, ?_, ?_, trivial⟩
                    · intro _ L w' hL hpre hJ a ha
                      obtain ⟨jf, jn, jb⟩ := hJ; simp [Region.binds] at hpre; refine .inl ⟨zaa rfl, ?_⟩; exact zah (.tmp 6) (.inl rfl) (.bool true) (by rw [ha, zac rfl]; rfl) ⟨(), _, rfl, rfl, jf, jn, jb⟩
                    · intro _ L w' hL hpre hJ a ha
                      obtain ⟨jf, jn, jb⟩ := hJ; simp [Region.binds] at hpre; refine .inl ⟨zaa rfl, ?_⟩; exact zah (.tmp 103) (.inl rfl) (.bool true) (evP ha 0 rfl (by simp [hpre]) (by simp) rfl) ⟨(), _, rfl, rfl, jf, jn, jb⟩
                    · intro _ L w' hL hpre hJ a ha
                      obtain ⟨jf, jn, jb⟩ := hJ; simp [Region.binds] at hpre; refine .inl ⟨zae (g := 1) (t := 104) (b := true) rfl rfl (evP ha 1 rfl (by simp [hpre]) (by simp) rfl), ?_⟩; exact zah (.tmp 5) (.inl rfl) (.pointer (some ⟨Y.q d b, 0, none⟩)) (by rw [ha, zac rfl]; rfl) ⟨(), _, rfl, rfl, jf, jn, jb⟩
                    · intro _ L w' hL hpre hJ a ha
                      obtain ⟨jf, jn, jb⟩ := hJ; simp [Region.binds] at hpre; refine .inl ⟨zae (g := 1) (t := 104) (b := true) rfl rfl (evP ha 1 rfl (by simp [hpre]) (by simp) rfl), ?_⟩; have e105 : a.eval (.tmp 105) = .pointer (some ⟨Y.q d b, 0, none⟩) := evP ha 2 rfl (by simp [hpre]) (by simp) rfl; clear ha; have jf' := Lib.hid jf; have jn' := Lib.hid jn; have jb' := Lib.hid jb; clear jf jn jb; refine zab fun K HK => ?_; unfold Oper.wp; simp only [execOp, e105]; go_simp; exact HK.out _ _ ⟨(), _, rfl, rfl, jf'.out, jn'.out, jb'.out⟩
                    · intro _ L w' hL hpre hJ a ha
                      obtain ⟨jf, jn, jb⟩ := hJ; simp [Region.binds] at hpre; refine .inl ⟨zae (g := 1) (t := 104) (b := true) rfl rfl (evP ha 1 rfl (by simp [hpre]) (by simp) rfl), ?_⟩; have e106 : a.eval (.tmp 106) = .pointer (some ⟨Y.q d b, 0, none⟩) := evP ha 3 rfl (by simp [hpre]) (by simp) rfl; clear ha; have jf' := Lib.hid jf; have jn' := Lib.hid jn; have jb' := Lib.hid jb; clear jf jn jb; refine zab fun K HK => ?_; unfold Oper.wp; simp only [execOp, e106]; go_simp; exact HK.out _ _ ⟨(), _, rfl, rfl, jf'.out, jn'.out, jb'.out⟩
                    · intro _ L w' hL hpre hJ a ha
                      obtain ⟨jf, jn, jb⟩ := hJ; simp [Region.binds] at hpre; refine .inl ⟨zae (g := 1) (t := 104) (b := true) rfl rfl (evP ha 1 rfl (by simp [hpre]) (by simp) rfl), ?_⟩; have e107 : a.eval (.tmp 107) = .pointer (some ⟨Y.q d b, 0, none⟩) := evP ha 4 rfl (by simp [hpre]) (by simp) rfl; clear ha; have cc := blk_c0 jn HDN.out HBN.out; rw [HCV.out] at cc; have jf' := Lib.hid jf; have jn' := Lib.hid jn; have jb' := Lib.hid jb; clear jf jn jb; refine zab fun K HK => ?_; unfold Oper.wp; simp only [execOp, e107]; go_simp; exact HK.out _ _ ⟨(), _, rfl, rfl, jf'.out, jn'.out, jb'.out⟩
                    · intro _ L w' hL hpre hJ a ha
                      obtain ⟨jf, jn, jb⟩ := hJ; simp [Region.binds] at hpre; refine .inl ⟨zae (g := 1) (t := 104) (b := true) rfl rfl (evP ha 1 rfl (by simp [hpre]) (by simp) rfl), ?_⟩; have e3 : a.eval (.tmp 3) = .pointer (some ⟨w.heap.size, 0, none⟩) := by rw [ha, zac rfl]; rfl
                      clear ha; have jf' := Lib.hid jf; have jn' := Lib.hid jn; have jb' := Lib.hid jb; clear jf jn jb; refine zab fun K HK => ?_; unfold Oper.wp; simp only [execOp, e3]; go_simp; exact HK.out _ _ ⟨(), _, rfl, rfl, jf'.out, jn'.out, jb'.out⟩
                    · intro _ L w' hL hpre hJ a ha
                      obtain ⟨jf, jn, jb⟩ := hJ; simp [Region.binds] at hpre; refine .inl ⟨zae (g := 1) (t := 104) (b := true) rfl rfl (evP ha 1 rfl (by simp [hpre]) (by simp) rfl), ?_⟩; have e109 : a.eval (.tmp 109) = .pointer (some ⟨w.heap.size, 2, none⟩) := evP ha 6 rfl (by simp [hpre]) (by simp) rfl; clear ha; have jf' := Lib.hid jf; have jn' := Lib.hid jn; have jb' := Lib.hid jb; clear jf jn jb; refine zab fun K HK => ?_; unfold Oper.wp; simp only [execOp, e109]; go_simp; exact HK.out _ _ ⟨(), _, rfl, rfl, jf'.out, jn'.out, jb'.out⟩
                    · intro _ L w' hL hpre hJ a ha
                      obtain ⟨jf, jn, jb⟩ := hJ; simp [Region.binds] at hpre; refine .inl ⟨zae (g := 1) (t := 104) (b := true) rfl rfl (evP ha 1 rfl (by simp [hpre]) (by simp) rfl), ?_⟩; have e110 : a.eval (.tmp 110) = .pointer (some ⟨w.heap.size, 4, none⟩) := evP ha 7 rfl (by simp [hpre]) (by simp) rfl; clear ha; have cc := flt_c4 jf; rw [HQ.out] at cc; have jf' := Lib.hid jf; have jn' := Lib.hid jn; have jb' := Lib.hid jb; clear jf jn jb; refine zab fun K HK => ?_; unfold Oper.wp; simp only [execOp, e110]; go_simp; exact HK.out _ _ ⟨(), _, rfl, rfl, jf'.out, jn'.out, jb'.out⟩
                    · intro _ L w' hL hpre hJ a ha
                      obtain ⟨jf, jn, jb⟩ := hJ; simp [Region.binds] at hpre; refine .inl ⟨zae (g := 1) (t := 104) (b := true) rfl rfl (evP ha 1 rfl (by simp [hpre]) (by simp) rfl), ?_⟩; have e108 : a.eval (.tmp 108) = .slice (some ⟨gc, 0, none⟩) M cp := evP ha 5 rfl (by simp [hpre]) (by simp) rfl; have e111 : a.eval (.tmp 111) = .int .i64 (q : Int) := evP ha 8 rfl (by simp [hpre]) (by simp) rfl; clear ha; have cM := HqM.out; have jf' := Lib.hid jf; have jn' := Lib.hid jn; have jb' := Lib.hid jb; clear jf jn jb; refine zab fun K HK => ?_; unfold Oper.wp; simp only [execOp, e108, e111]; go_simp; exact HK.out _ _ ⟨(), _, rfl, rfl, jf'.out, jn'.out, jb'.out⟩
                    · intro _ L w' hL hpre hJ a ha
                      obtain ⟨jf, jn, jb⟩ := hJ; simp [Region.binds] at hpre; refine .inl ⟨zae (g := 1) (t := 104) (b := true) rfl rfl (evP ha 1 rfl (by simp [hpre]) (by simp) rfl), ?_⟩; have e112 : a.eval (.tmp 112) = .pointer (some ⟨gc, q * 34, none⟩) := evP ha 9 rfl (by simp [hpre]) (by simp) rfl; clear ha; have jf' := Lib.hid jf; have jn' := Lib.hid jn; have jb' := Lib.hid jb; clear jf jn jb; refine zab fun K HK => ?_; unfold Oper.wp; simp only [execOp, e112]; go_simp; exact HK.out _ _ ⟨(), _, rfl, rfl, jf'.out, jn'.out, jb'.out⟩
                    · intro _ L w' hL hpre hJ a ha
                      obtain ⟨jf, jn, jb⟩ := hJ; simp [Region.binds] at hpre; refine .inl ⟨zae (g := 1) (t := 104) (b := true) rfl rfl (evP ha 1 rfl (by simp [hpre]) (by simp) rfl), ?_⟩; have e113 : a.eval (.tmp 113) = .pointer (some ⟨gc, q * 34 + 32, none⟩) := evP ha 10 rfl (by simp [hpre]) (by simp) rfl; clear ha; have cc := (jn.inCell HDN.out HBN.out HCV'.out HCM.out HC32.out).1; have jf' := Lib.hid jf; have jn' := Lib.hid jn; have jb' := Lib.hid jb; clear jf jn jb; refine zab fun K HK => ?_; unfold Oper.wp; simp only [execOp, e113]; go_simp; exact HK.out _ _ ⟨(), _, rfl, rfl, jf'.out, jn'.out, jb'.out⟩
                    · intro _ L w' hL hpre hJ a ha
                      obtain ⟨jf, jn, jb⟩ := hJ; simp [Region.binds] at hpre; refine .inl ⟨zae (g := 1) (t := 104) (b := true) rfl rfl (evP ha 1 rfl (by simp [hpre]) (by simp) rfl), ?_⟩; have e114 : a.eval (.tmp 114) = .bool true := evP ha 11 rfl (by simp [hpre]) (by simp) rfl; clear ha; have jf' := Lib.hid jf; have jn' := Lib.hid jn; have jb' := Lib.hid jb; clear jf jn jb; refine zab fun K HK => ?_; unfold Oper.wp; simp only [execOp, e114]; go_simp; exact HK.out _ _ ⟨(), _, rfl, rfl, jf'.out, jn'.out, jb'.out⟩
                    · intro _ L w' hL hpre hJ a ha
                      obtain ⟨jf, jn, jb⟩ := hJ; simp [Region.binds] at hpre; refine .inl ⟨zaa rfl, ?_⟩; have e104 : a.eval (.tmp 104) = .bool true := evP ha 1 rfl (by simp [hpre]) (by simp) rfl; have e115 : a.eval (.tmp 115) = .bool false := evP ha 12 rfl (by simp [hpre]) (by simp) rfl; clear ha; have jf' := Lib.hid jf; have jn' := Lib.hid jn; have jb' := Lib.hid jb; clear jf jn jb; refine zab fun K HK => ?_; unfold Oper.wp; simp only [execOp, e104, e115]; go_simp; exact HK.out _ _ ⟨(), _, rfl, rfl, jf'.out, jn'.out, jb'.out⟩
                  · intro _ L w' hL hJ
                    obtain ⟨jf, jn, jb⟩ := hJ; clear hL; simp only [List.foldl_cons, List.foldl_nil]; go_simp; go_wp2_with fail
                    go_ret
                    exact ⟨by rw [HPL.out.1]; rfl, ⟨Y, Nat.le_succ _, by rw [HPL.out.2]; exact jn⟩, HFt.out.trans (Fr.of_below jb)⟩
                 | false =>
                  have HPL := Lib.hid (HPF.out.k5d c HK5.out HN0.out.1 HN0.out.2 HCM.out HTU.out hlo); rw [hlo] at HC32; have HLO := Lib.hid hlo; clear hlo; go_upto_region 19 with fail
                  refine zan (by kernel_rfl) (by kernel_rfl) (X := Unit) (fun _ => [(some 103, .bool true), (some 104, .bool true), (some 105, .pointer (some ⟨Y.q d b, 0, none⟩)), (some 106, .pointer (some ⟨Y.q d b, 0, none⟩)), (some 107, .pointer (some ⟨Y.q d b, 0, none⟩)), (some 108, .slice (some ⟨gc, 0, none⟩) M cp), (some 109, .pointer (some ⟨w.heap.size, 2, none⟩)), (some 110, .pointer (some ⟨w.heap.size, 4, none⟩)), (some 111, .int .i64 (q : Int)), (some 112, .pointer (some ⟨gc, q * 34, none⟩)), (some 113, .pointer (some ⟨gc, q * 34 + 32, none⟩)), (some 114, .bool false), (some 115, .bool true), (some 116, .bool true)])
                   (fun _ L w' => w'.heap[w.heap.size]? = some (.cells f.v.toArray 87 (0, 0)) ∧ NandAt w' base g Y N ∧ Below wt.heap.size wt w') (fun _ => rfl) (by kernel_rfl) ⟨(), fun _ _ => ⟨HF.out, HN6.out.drew, (Below.refl _ wt).drew⟩⟩ ?_ ?_
                  · refine ⟨?_, ?_, ?_, ?_, ?_, ?_, ?_, ?_, ?_, ?_, ?_, ?_, ?_, ?_, trivial⟩
                    · intro _ L w' hL hpre hJ a ha
                      obtain ⟨jf, jn, jb⟩ := hJ; simp [Region.binds] at hpre; refine .inl ⟨zaa rfl, ?_⟩; exact zah (.tmp 6) (.inl rfl) (.bool true) (by rw [ha, zac rfl]; rfl) ⟨(), _, rfl, rfl, jf, jn, jb⟩
                    · intro _ L w' hL hpre hJ a ha
                      obtain ⟨jf, jn, jb⟩ := hJ; simp [Region.binds] at hpre; refine .inl ⟨zaa rfl, ?_⟩; exact zah (.tmp 103) (.inl rfl) (.bool true) (evP ha 0 rfl (by simp [hpre]) (by simp) rfl) ⟨(), _, rfl, rfl, jf, jn, jb⟩
                    · intro _ L w' hL hpre hJ a ha
                      obtain ⟨jf, jn, jb⟩ := hJ; simp [Region.binds] at hpre; refine .inl ⟨zae (g := 1) (t := 104) (b := true) rfl rfl (evP ha 1 rfl (by simp [hpre]) (by simp) rfl), ?_⟩; exact zah (.tmp 5) (.inl rfl) (.pointer (some ⟨Y.q d b, 0, none⟩)) (by rw [ha, zac rfl]; rfl) ⟨(), _, rfl, rfl, jf, jn, jb⟩
                    · intro _ L w' hL hpre hJ a ha
                      obtain ⟨jf, jn, jb⟩ := hJ; simp [Region.binds] at hpre; refine .inl ⟨zae (g := 1) (t := 104) (b := true) rfl rfl (evP ha 1 rfl (by simp [hpre]) (by simp) rfl), ?_⟩; have e105 : a.eval (.tmp 105) = .pointer (some ⟨Y.q d b, 0, none⟩) := evP ha 2 rfl (by simp [hpre]) (by simp) rfl; clear ha; have jf' := Lib.hid jf; have jn' := Lib.hid jn; have jb' := Lib.hid jb; clear jf jn jb; refine zab fun K HK => ?_; unfold Oper.wp; simp only [execOp, e105]; go_simp; exact HK.out _ _ ⟨(), _, rfl, rfl, jf'.out, jn'.out, jb'.out⟩
                    · intro _ L w' hL hpre hJ a ha
                      obtain ⟨jf, jn, jb⟩ := hJ; simp [Region.binds] at hpre; refine .inl ⟨zae (g := 1) (t := 104) (b := true) rfl rfl (evP ha 1 rfl (by simp [hpre]) (by simp) rfl), ?_⟩; have e106 : a.eval (.tmp 106) = .pointer (some ⟨Y.q d b, 0, none⟩) := evP ha 3 rfl (by simp [hpre]) (by simp) rfl; clear ha; have jf' := Lib.hid jf; have jn' := Lib.hid jn; have jb' := Lib.hid jb; clear jf jn jb; refine zab fun K HK => ?_; unfold Oper.wp; simp only [execOp, e106]; go_simp; exact HK.out _ _ ⟨(), _, rfl, rfl, jf'.out, jn'.out, jb'.out⟩
                    · intro _ L w' hL hpre hJ a ha
                      obtain ⟨jf, jn, jb⟩ := hJ; simp [Region.binds] at hpre; refine .inl ⟨zae (g := 1) (t := 104) (b := true) rfl rfl (evP ha 1 rfl (by simp [hpre]) (by simp) rfl), ?_⟩; have e107 : a.eval (.tmp 107) = .pointer (some ⟨Y.q d b, 0, none⟩) := evP ha 4 rfl (by simp [hpre]) (by simp) rfl; clear ha; have cc := blk_c0 jn HDN.out HBN.out; rw [HCV.out] at cc; have jf' := Lib.hid jf; have jn' := Lib.hid jn; have jb' := Lib.hid jb; clear jf jn jb; refine zab fun K HK => ?_; unfold Oper.wp; simp only [execOp, e107]; go_simp; exact HK.out _ _ ⟨(), _, rfl, rfl, jf'.out, jn'.out, jb'.out⟩
                    · intro _ L w' hL hpre hJ a ha
                      obtain ⟨jf, jn, jb⟩ := hJ; simp [Region.binds] at hpre; refine .inl ⟨zae (g := 1) (t := 104) (b := true) rfl rfl (evP ha 1 rfl (by simp [hpre]) (by simp) rfl), ?_⟩; have e3 : a.eval (.tmp 3) = .pointer (some ⟨w.heap.size, 0, none⟩) := by rw [ha, zac rfl]; rfl
                      clear ha; have jf' := Lib.hid jf; have jn' := Lib.hid jn; have jb' := Lib.hid jb; clear jf jn jb; refine zab fun K HK => ?_; unfold Oper.wp; simp only [execOp, e3]; go_simp; exact HK.out _ _ ⟨(), _, rfl, rfl, jf'.out, jn'.out, jb'.out⟩
                    · intro _ L w' hL hpre hJ a ha
                      obtain ⟨jf, jn, jb⟩ := hJ; simp [Region.binds] at hpre; refine .inl ⟨zae (g := 1) (t := 104) (b := true) rfl rfl (evP ha 1 rfl (by simp [hpre]) (by simp) rfl), ?_⟩; have e109 : a.eval (.tmp 109) = .pointer (some ⟨w.heap.size, 2, none⟩) := evP ha 6 rfl (by simp [hpre]) (by simp) rfl; clear ha; have jf' := Lib.hid jf; have jn' := Lib.hid jn; have jb' := Lib.hid jb; clear jf jn jb; refine zab fun K HK => ?_; unfold Oper.wp; simp only [execOp, e109]; go_simp; exact HK.out _ _ ⟨(), _, rfl, rfl, jf'.out, jn'.out, jb'.out⟩
                    · intro _ L w' hL hpre hJ a ha
                      obtain ⟨jf, jn, jb⟩ := hJ; simp [Region.binds] at hpre; refine .inl ⟨zae (g := 1) (t := 104) (b := true) rfl rfl (evP ha 1 rfl (by simp [hpre]) (by simp) rfl), ?_⟩; have e110 : a.eval (.tmp 110) = .pointer (some ⟨w.heap.size, 4, none⟩) := evP ha 7 rfl (by simp [hpre]) (by simp) rfl; clear ha; have cc := flt_c4 jf; rw [HQ.out] at cc; have jf' := Lib.hid jf; have jn' := Lib.hid jn; have jb' := Lib.hid jb; clear jf jn jb; refine zab fun K HK => ?_; unfold Oper.wp; simp only [execOp, e110]; go_simp; exact HK.out _ _ ⟨(), _, rfl, rfl, jf'.out, jn'.out, jb'.out⟩
                    · intro _ L w' hL hpre hJ a ha
                      obtain ⟨jf, jn, jb⟩ := hJ; simp [Region.binds] at hpre; refine .inl ⟨zae (g := 1) (t := 104) (b := true) rfl rfl (evP ha 1 rfl (by simp [hpre]) (by simp) rfl), ?_⟩; have e108 : a.eval (.tmp 108) = .slice (some ⟨gc, 0, none⟩) M cp := evP ha 5 rfl (by simp [hpre]) (by simp) rfl; have e111 : a.eval (.tmp 111) = .int .i64 (q : Int) := evP ha 8 rfl (by simp [hpre]) (by simp) rfl; clear ha; have cM := HqM.out; have jf' := Lib.hid jf; have jn' := Lib.hid jn; have jb' := Lib.hid jb; clear jf jn jb; refine zab fun K HK => ?_; unfold Oper.wp; simp only [execOp, e108, e111]; go_simp; exact HK.out _ _ ⟨(), _, rfl, rfl, jf'.out, jn'.out, jb'.out⟩
                    · intro _ L w' hL hpre hJ a ha
                      obtain ⟨jf, jn, jb⟩ := hJ; simp [Region.binds] at hpre; refine .inl ⟨zae (g := 1) (t := 104) (b := true) rfl rfl (evP ha 1 rfl (by simp [hpre]) (by simp) rfl), ?_⟩; have e112 : a.eval (.tmp 112) = .pointer (some ⟨gc, q * 34, none⟩) := evP ha 9 rfl (by simp [hpre]) (by simp) rfl; clear ha; have jf' := Lib.hid jf; have jn' := Lib.hid jn; have jb' := Lib.hid jb; clear jf jn jb; refine zab fun K HK => ?_; unfold Oper.wp; simp only [execOp, e112]; go_simp; exact HK.out _ _ ⟨(), _, rfl, rfl, jf'.out, jn'.out, jb'.out⟩
                    · intro _ L w' hL hpre hJ a ha
                      obtain ⟨jf, jn, jb⟩ := hJ; simp [Region.binds] at hpre; refine .inl ⟨zae (g := 1) (t := 104) (b := true) rfl rfl (evP ha 1 rfl (by simp [hpre]) (by simp) rfl), ?_⟩; have e113 : a.eval (.tmp 113) = .pointer (some ⟨gc, q * 34 + 32, none⟩) := evP ha 10 rfl (by simp [hpre]) (by simp) rfl; clear ha; have cc := (jn.inCell HDN.out HBN.out HCV'.out HCM.out HC32.out).1; have jf' := Lib.hid jf; have jn' := Lib.hid jn; have jb' := Lib.hid jb; clear jf jn jb; refine zab fun K HK => ?_; unfold Oper.wp; simp only [execOp, e113]; go_simp; exact HK.out _ _ ⟨(), _, rfl, rfl, jf'.out, jn'.out, jb'.out⟩
                    · intro _ L w' hL hpre hJ a ha
                      obtain ⟨jf, jn, jb⟩ := hJ; simp [Region.binds] at hpre; refine .inl ⟨zae (g := 1) (t := 104) (b := true) rfl rfl (evP ha 1 rfl (by simp [hpre]) (by simp) rfl), ?_⟩; have e114 : a.eval (.tmp 114) = .bool false := evP ha 11 rfl (by simp [hpre]) (by simp) rfl; clear ha; have jf' := Lib.hid jf; have jn' := Lib.hid jn; have jb' := Lib.hid jb; clear jf jn jb; refine zab fun K HK => ?_; unfold Oper.wp; simp only [execOp, e114]; go_simp; exact HK.out _ _ ⟨(), _, rfl, rfl, jf'.out, jn'.out, jb'.out⟩
                    · intro _ L w' hL hpre hJ a ha
                      obtain ⟨jf, jn, jb⟩ := hJ; simp [Region.binds] at hpre; refine .inl ⟨zaa rfl, ?_⟩; have e104 : a.eval (.tmp 104) = .bool true := evP ha 1 rfl (by simp [hpre]) (by simp) rfl; have e115 : a.eval (.tmp 115) = .bool true := evP ha 12 rfl (by simp [hpre]) (by simp) rfl; clear ha; have jf' := Lib.hid jf; have jn' := Lib.hid jn; have jb' := Lib.hid jb; clear jf jn jb; refine zab fun K HK => ?_; unfold Oper.wp; simp only [execOp, e104, e115]; go_simp; exact HK.out _ _ ⟨(), _, rfl, rfl, jf'.out, jn'.out, jb'.out⟩
                  · intro _ L w' hL hJ
                    obtain ⟨jf, jn, jb⟩ := hJ; clear hL; simp only [List.foldl_cons, List.foldl_nil]; go_simp; obtain ⟨n, hn⟩ := Int.eq_ofNat_of_zero_le HN0.out.1; have hn32 : n < 32 := by have := HN0.out.2; omega
                    have cf4 := flt_c4 jf; rw [HQ.out] at cf4; have cf5 := flt_c5 jf; rw [hn] at cf5; have cf6 := flt_c6 jf; have cq := blk_c0 jn HDN.out HBN.out; rw [HCV.out] at cq; obtain ⟨y, hy⟩ : ∃ y, c.p[n]? = some y := ⟨_, List.getElem?_eq_getElem (by rw [H32.out.1]; exact hn32)⟩; have hy256 : y < 256 := H32.out.2 y (List.mem_of_getElem? hy); obtain ⟨xb, hxb⟩ : ∃ xb, xb = (f.x % 256).toNat := ⟨_, rfl⟩; have hx256 : xb < 256 := by omega
                    have hwx : IntKind.u8.wrap f.x = (xb : Int) := by rw [wrap_u8, hxb]
                    have hxor := u8_xor y xb hy256 hx256; have hcy : c.v[n]? = some (.int .u8 (y : Int)) := by rw [Cel.v, List.getElem?_append_left (by rw [zaj, H32.out.1]; exact hn32), nats, List.getElem?_map, hy]; rfl
                    obtain ⟨cl, fl⟩ := jn.inCell HDN.out HBN.out HCV'.out HCM.out hcy; have hfl : flip c.p n f.x = c.p.set n (y ^^^ xb) := by unfold flip; rw [modify_set _ hy, hxb]
                    have hset : c.v.set n (.int .u8 ((y ^^^ xb : Nat) : Int)) = (Cel.mk (flip c.p n f.x) c.lost c.turned).v := by unfold Cel.v; rw [List.set_append_left _ _ (by rw [zaj, H32.out.1]; exact hn32), hfl]; simp [nats, List.map_set]
                    have hS := jn.setIn HDN.out HBN.out HCV'.out HCM.out (by omega) hset (flip_ok H32.out); have hfn : f.n.toNat = n := by omega
                    rw [hfn] at HPL; have HFl := Lib.hid (flip_ok (n := n) (x := f.x) H32.out); have HFS := Lib.hid hS.2; have HS := Lib.hid (And.intro hS.1 (HFt.out.trans ((Fr.of_below jb).trans hS.2))); have HJ := Lib.hid jf; have HGC := Lib.hid (za5 (by have := (jn.body.rows d b HDN.out HBN.out).1; rw [HCV'.out] at this; exact this) (k := gc) rfl); clear hS hset hfl hcy hy hfn hxb jn jf jb; have hqI := HqM.out; have hnI : (n : Int) < 32 := by omega
                    go_upto_region 20 with fail
                    go_region
                    have hS2 := (HS.out.1).drew; have hF2 := (HS.out.2).drew; have hJ2 := ((Fr.refl base g w').trans (show Fr base g w' _ from HFS.out.drew)).blk HJ.out rfl; clear cf4 cf5 cf6 cq cl fl hwx hxor; generalize (w'.setCell ⟨gc, q * 34 + n, none⟩ (.int .u8 ((y ^^^ xb : Nat) : Int))).drew = wu at *; obtain ⟨N2, hN2⟩ : ∃ N2, N2 = N.upd d b { N.blk d b with cells := (N.blk d b).cells.set q (Cel.mk (flip c.p n f.x) c.lost c.turned) } := ⟨_, rfl⟩; rw [← hN2] at hS2; have hb2 : N2.blk d b = { N.blk d b with cells := (N.blk d b).cells.set q (Cel.mk (flip c.p n f.x) c.lost c.turned) } := by rw [hN2, upd_at]
                    have hD2 : d < N2.D := by rw [hN2]; exact HDN.out
                    have hB2 : b < N2.B := by rw [hN2]; exact HBN.out
                    have hcv2 : Y.cv d b = .slice (some ⟨gc, 0, none⟩) (N2.blk d b).cells.length cp := by rw [hb2]; simp only [List.length_set]; exact HCV'.out
                    have hcm2 : (N2.blk d b).cells[q]? = some (Cel.mk (flip c.p n f.x) c.lost c.turned) := by rw [hb2]; simp only; rw [List.getElem?_set_self (List.getElem?_eq_some_iff.1 HCM.out).1]
                    have h33 : (Cel.mk (flip c.p n f.x) c.lost c.turned).v[33]? = some (.bool c.turned) := by rw [Cel.v, List.getElem?_append_right (by rw [zaj, HFl.out.1]; decide), zaj, HFl.out.1]; rfl
                    have hset2 : (Cel.mk (flip c.p n f.x) c.lost c.turned).v.set 33 (.bool true) = (Cel.mk (flip c.p n f.x) c.lost true).v := by unfold Cel.v; rw [List.set_append_right _ _ (by rw [zaj, HFl.out.1]; decide), zaj, HFl.out.1]; rfl
                    obtain ⟨cl, fl⟩ := hS2.inCell hD2 hB2 hcv2 hcm2 h33; have hS3 := hS2.setIn hD2 hB2 hcv2 hcm2 (by decide) hset2 HFl.out; have hee : N2.upd d b { N2.blk d b with cells := (N2.blk d b).cells.set q (Cel.mk (flip c.p n f.x) c.lost true) } = N.upd d b { N.blk d b with cells := (N.blk d b).cells.set q ⟨flip c.p n f.x, false, true⟩ } := by rw [hb2, hN2, upd_upd, HLO.out]; simp only [List.set_set]
                    rw [hee] at hS3; have HS3 := Lib.hid (And.intro hS3.1 (hF2.trans hS3.2)); have cq := blk_c0 hS2 hD2 hB2; rw [HCV.out] at cq; have cf4 := flt_c4 hJ2; rw [HQ.out] at cf4; clear hS2 hS3 hF2 hJ2 hN2 hb2 hcv2 hcm2 h33 hset2 hee; go_upto_region 21 with fail
                    go_region
                    go_wp2_with fail
                    go_ret
                    exact ⟨by rw [HPL.out.1]; rfl, ⟨Y, Nat.le_succ _, by rw [HPL.out.2]; exact HS3.out.1.drew⟩, HS3.out.2.drew⟩
            · have hth : there = false := by rw [HTH.out]; simp; omega
              subst hth; have HPL := Lib.hid (HPF.out.k5a hk5 (by omega) (by omega) (by rw [← HMe.out]; omega)); clear hqM hg hl hl0 hk1 hk2 hk3 hk4 hk5; go_upto_region 17 with fail
              refine zan (by kernel_rfl) (by kernel_rfl) (X := Unit) (fun _ => [(some 80, .pointer (some ⟨w.heap.size, 5, none⟩)), (some 81, .int .i64 f.n), (some 82, .bool false), (some 83, .bool false), (some 84, .pointer (some ⟨w.heap.size, 5, none⟩)), (some 85, .int .i64 f.n), (some 86, .bool false), (some 87, .bool false), (some 88, .bool false), (some 89, .bool false), (some 90, .bool false), (some 91, undef), (some 92, undef), (some 93, undef), (some 94, undef), (some 95, undef), (some 96, undef), (some 97, undef), (some 98, undef), (some 99, undef), (some 100, undef), (some 101, .bool false), (some 102, .bool false)])
               (fun _ L w' => w'.heap[w.heap.size]? = some (.cells f.v.toArray 87 (0, 0)) ∧ NandAt w' base g Y N ∧ Below ws.heap.size ws w') (fun _ => rfl) (by kernel_rfl) ⟨(), fun _ _ => ⟨HF.out, HN4.out.drew, (Below.refl _ ws).drew⟩⟩ ?_ ?_
              · refine ⟨?_, ?_, ?_, ?_, ?_, ?_, ?_, ?_, ?_, ?_, ?_, ?_, ?_, ?_, ?_, ?_, ?_, ?_, ?_, ?_, ?_, ?_, ?_, trivial⟩
                · intro _ L w' hL hpre hJ a ha
                  obtain ⟨jf, jn, jb⟩ := hJ; simp [Region.binds] at hpre; refine .inl ⟨zaa rfl, ?_⟩; have e3 : a.eval (.tmp 3) = .pointer (some ⟨w.heap.size, 0, none⟩) := by rw [ha, zac rfl]; rfl
                  clear ha; have jf' := Lib.hid jf; have jn' := Lib.hid jn; have jb' := Lib.hid jb; clear jf jn jb; refine zab fun K HK => ?_; unfold Oper.wp; simp only [execOp, e3]; go_simp; exact HK.out _ _ ⟨(), _, rfl, rfl, jf'.out, jn'.out, jb'.out⟩
                · intro _ L w' hL hpre hJ a ha
                  obtain ⟨jf, jn, jb⟩ := hJ; simp [Region.binds] at hpre; refine .inl ⟨zaa rfl, ?_⟩; have e80 : a.eval (.tmp 80) = .pointer (some ⟨w.heap.size, 5, none⟩) := evP ha 0 rfl (by simp [hpre]) (by simp) rfl; clear ha; have cc := flt_c5 jf; have jf' := Lib.hid jf; have jn' := Lib.hid jn; have jb' := Lib.hid jb; clear jf jn jb; refine zab fun K HK => ?_; unfold Oper.wp; simp only [execOp, e80]; go_simp; exact HK.out _ _ ⟨(), _, rfl, rfl, jf'.out, jn'.out, jb'.out⟩
                · intro _ L w' hL hpre hJ a ha
                  obtain ⟨jf, jn, jb⟩ := hJ; simp [Region.binds] at hpre; refine .inl ⟨zaa rfl, ?_⟩; have e81 : a.eval (.tmp 81) = .int .i64 f.n := evP ha 1 rfl (by simp [hpre]) (by simp) rfl; clear ha; have cc := HTl.out; have jf' := Lib.hid jf; have jn' := Lib.hid jn; have jb' := Lib.hid jb; clear jf jn jb; refine zab fun K HK => ?_; unfold Oper.wp; simp only [execOp, e81]; go_simp; exact HK.out _ _ ⟨(), _, rfl, rfl, jf'.out, jn'.out, jb'.out⟩
                · intro _ L w' hL hpre hJ a ha
                  obtain ⟨jf, jn, jb⟩ := hJ; simp [Region.binds] at hpre; refine .inl ⟨zaa rfl, ?_⟩; exact zah (.tmp 82) (.inl rfl) (.bool false) (evP ha 2 rfl (by simp [hpre]) (by simp) rfl) ⟨(), _, rfl, rfl, jf, jn, jb⟩
                · intro _ L w' hL hpre hJ a ha
                  obtain ⟨jf, jn, jb⟩ := hJ; simp [Region.binds] at hpre; refine .inl ⟨zae (g := 3) (t := 83) (b := false) rfl rfl (evP ha 3 rfl (by simp [hpre]) (by simp) rfl), ?_⟩; have e3 : a.eval (.tmp 3) = .pointer (some ⟨w.heap.size, 0, none⟩) := by rw [ha, zac rfl]; rfl
                  clear ha; have jf' := Lib.hid jf; have jn' := Lib.hid jn; have jb' := Lib.hid jb; clear jf jn jb; refine zab fun K HK => ?_; unfold Oper.wp; simp only [execOp, e3]; go_simp; exact HK.out _ _ ⟨(), _, rfl, rfl, jf'.out, jn'.out, jb'.out⟩
                · intro _ L w' hL hpre hJ a ha
                  obtain ⟨jf, jn, jb⟩ := hJ; simp [Region.binds] at hpre; refine .inl ⟨zae (g := 3) (t := 83) (b := false) rfl rfl (evP ha 3 rfl (by simp [hpre]) (by simp) rfl), ?_⟩; have e84 : a.eval (.tmp 84) = .pointer (some ⟨w.heap.size, 5, none⟩) := evP ha 4 rfl (by simp [hpre]) (by simp) rfl; clear ha; have cc := flt_c5 jf; have jf' := Lib.hid jf; have jn' := Lib.hid jn; have jb' := Lib.hid jb; clear jf jn jb; refine zab fun K HK => ?_; unfold Oper.wp; simp only [execOp, e84]; go_simp; exact HK.out _ _ ⟨(), _, rfl, rfl, jf'.out, jn'.out, jb'.out⟩
                · intro _ L w' hL hpre hJ a ha
                  obtain ⟨jf, jn, jb⟩ := hJ; simp [Region.binds] at hpre; refine .inl ⟨zae (g := 3) (t := 83) (b := false) rfl rfl (evP ha 3 rfl (by simp [hpre]) (by simp) rfl), ?_⟩; have e85 : a.eval (.tmp 85) = .int .i64 f.n := evP ha 5 rfl (by simp [hpre]) (by simp) rfl; clear ha; have cc := HTg.out; have jf' := Lib.hid jf; have jn' := Lib.hid jn; have jb' := Lib.hid jb; clear jf jn jb; refine zab fun K HK => ?_; unfold Oper.wp; simp only [execOp, e85]; go_simp; exact HK.out _ _ ⟨(), _, rfl, rfl, jf'.out, jn'.out, jb'.out⟩
                · intro _ L w' hL hpre hJ a ha
                  obtain ⟨jf, jn, jb⟩ := hJ; simp [Region.binds] at hpre; refine .inl ⟨zaa rfl, ?_⟩; have e83 : a.eval (.tmp 83) = .bool false := evP ha 3 rfl (by simp [hpre]) (by simp) rfl; have e86 : a.eval (.tmp 86) = .bool false := evP ha 6 rfl (by simp [hpre]) (by simp) rfl; clear ha; have jf' := Lib.hid jf; have jn' := Lib.hid jn; have jb' := Lib.hid jb; clear jf jn jb; refine zab fun K HK => ?_; unfold Oper.wp; simp only [execOp, e83, e86]; go_simp; exact HK.out _ _ ⟨(), _, rfl, rfl, jf'.out, jn'.out, jb'.out⟩
                · intro _ L w' hL hpre hJ a ha
                  obtain ⟨jf, jn, jb⟩ := hJ; simp [Region.binds] at hpre; refine .inl ⟨zaa rfl, ?_⟩; exact zah (.tmp 87) (.inl rfl) (.bool false) (evP ha 7 rfl (by simp [hpre]) (by simp) rfl) ⟨(), _, rfl, rfl, jf, jn, jb⟩
                · intro _ L w' hL hpre hJ a ha
                  obtain ⟨jf, jn, jb⟩ := hJ; simp [Region.binds] at hpre; refine .inl ⟨zae (g := 8) (t := 88) (b := false) rfl rfl (evP ha 8 rfl (by simp [hpre]) (by simp) rfl), ?_⟩; exact zah (.tmp 6) (.inl rfl) (.bool false) (by rw [ha, zac rfl]; rfl) ⟨(), _, rfl, rfl, jf, jn, jb⟩
                · intro _ L w' hL hpre hJ a ha
                  obtain ⟨jf, jn, jb⟩ := hJ; simp [Region.binds] at hpre; refine .inl ⟨zae (g := 8) (t := 88) (b := false) rfl rfl (evP ha 8 rfl (by simp [hpre]) (by simp) rfl), ?_⟩; exact zah (.tmp 89) (.inl rfl) (.bool false) (evP ha 9 rfl (by simp [hpre]) (by simp) rfl) ⟨(), _, rfl, rfl, jf, jn, jb⟩
                · intro _ L w' hL hpre hJ a ha
                  obtain ⟨jf, jn, jb⟩ := hJ; simp [Region.binds] at hpre; exact .inr ⟨zap (g := 10) (t := 90) (b := true) rfl rfl (evP ha 10 rfl (by simp [hpre]) (by simp) rfl), (), rfl, jf, jn, jb⟩
                · intro _ L w' hL hpre hJ a ha
                  obtain ⟨jf, jn, jb⟩ := hJ; simp [Region.binds] at hpre; exact .inr ⟨zap (g := 10) (t := 90) (b := true) rfl rfl (evP ha 10 rfl (by simp [hpre]) (by simp) rfl), (), rfl, jf, jn, jb⟩
                · intro _ L w' hL hpre hJ a ha
                  obtain ⟨jf, jn, jb⟩ := hJ; simp [Region.binds] at hpre; exact .inr ⟨zap (g := 10) (t := 90) (b := true) rfl rfl (evP ha 10 rfl (by simp [hpre]) (by simp) rfl), (), rfl, jf, jn, jb⟩
                · intro _ L w' hL hpre hJ a ha
                  obtain ⟨jf, jn, jb⟩ := hJ; simp [Region.binds] at hpre; exact .inr ⟨zap (g := 10) (t := 90) (b := true) rfl rfl (evP ha 10 rfl (by simp [hpre]) (by simp) rfl), (), rfl, jf, jn, jb⟩
                · intro _ L w' hL hpre hJ a ha
                  obtain ⟨jf, jn, jb⟩ := hJ; simp [Region.binds] at hpre; exact .inr ⟨zap (g := 10) (t := 90) (b := true) rfl rfl (evP ha 10 rfl (by simp [hpre]) (by simp) rfl), (), rfl, jf, jn, jb⟩
                · intro _ L w' hL hpre hJ a ha
                  obtain ⟨jf, jn, jb⟩ := hJ; simp [Region.binds] at hpre; exact .inr ⟨zap (g := 10) (t := 90) (b := true) rfl rfl (evP ha 10 rfl (by simp [hpre]) (by simp) rfl), (), rfl, jf, jn, jb⟩
                · intro _ L w' hL hpre hJ a ha
                  obtain ⟨jf, jn, jb⟩ := hJ; simp [Region.binds] at hpre; exact .inr ⟨zap (g := 10) (t := 90) (b := true) rfl rfl (evP ha 10 rfl (by simp [hpre]) (by simp) rfl), (), rfl, jf, jn, jb⟩
                · intro _ L w' hL hpre hJ a ha
                  obtain ⟨jf, jn, jb⟩ := hJ; simp [Region.binds] at hpre; exact .inr ⟨zap (g := 10) (t := 90) (b := true) rfl rfl (evP ha 10 rfl (by simp [hpre]) (by simp) rfl), (), rfl, jf, jn, jb⟩
                · intro _ L w' hL hpre hJ a ha
                  obtain ⟨jf, jn, jb⟩ := hJ; simp [Region.binds] at hpre; exact .inr ⟨zap (g := 10) (t := 90) (b := true) rfl rfl (evP ha 10 rfl (by simp [hpre]) (by simp) rfl), (), rfl, jf, jn, jb⟩
                · intro _ L w' hL hpre hJ a ha
                  obtain ⟨jf, jn, jb⟩ := hJ; simp [Region.binds] at hpre; exact .inr ⟨zap (g := 10) (t := 90) (b := true) rfl rfl (evP ha 10 rfl (by simp [hpre]) (by simp) rfl), (), rfl, jf, jn, jb⟩
                · intro _ L w' hL hpre hJ a ha
                  obtain ⟨jf, jn, jb⟩ := hJ; simp [Region.binds] at hpre; refine .inl ⟨zae (g := 8) (t := 88) (b := false) rfl rfl (evP ha 8 rfl (by simp [hpre]) (by simp) rfl), ?_⟩; have e90 : a.eval (.tmp 90) = .bool false := evP ha 10 rfl (by simp [hpre]) (by simp) rfl; clear ha; have jf' := Lib.hid jf; have jn' := Lib.hid jn; have jb' := Lib.hid jb; clear jf jn jb; refine zab fun K HK => ?_; unfold Oper.wp; simp only [execOp, e90]; go_simp; exact HK.out _ _ ⟨(), _, rfl, rfl, jf'.out, jn'.out, jb'.out⟩
                · intro _ L w' hL hpre hJ a ha
                  obtain ⟨jf, jn, jb⟩ := hJ; simp [Region.binds] at hpre; refine .inl ⟨zaa rfl, ?_⟩; have e88 : a.eval (.tmp 88) = .bool false := evP ha 8 rfl (by simp [hpre]) (by simp) rfl; have e101 : a.eval (.tmp 101) = .bool false := evP ha 21 rfl (by simp [hpre]) (by simp) rfl; clear ha; have jf' := Lib.hid jf; have jn' := Lib.hid jn; have jb' := Lib.hid jb; clear jf jn jb; refine zab fun K HK => ?_; unfold Oper.wp; simp only [execOp, e88, e101]; go_simp; exact HK.out _ _ ⟨(), _, rfl, rfl, jf'.out, jn'.out, jb'.out⟩
              · intro _ L w' hL hJ
                obtain ⟨jf, jn, jb⟩ := hJ; clear hL; simp only [List.foldl_cons, List.foldl_nil]; go_simp; have HN6 := Lib.hid jn; have HFt := Lib.hid (HFR.out.trans (Fr.of_below jb)); have HF7 := Lib.hid jf; clear jn jb jf; clear HF; have HF := HF7; obtain ⟨wt, hwt⟩ : ∃ x : World, x = w' := ⟨_, rfl⟩; subst hwt; go_upto_region 19 with fail
                refine zan (by kernel_rfl) (by kernel_rfl) (X := Unit) (fun _ => [(some 103, .bool false), (some 104, .bool false), (some 105, undef), (some 106, undef), (some 107, undef), (some 108, undef), (some 109, undef), (some 110, undef), (some 111, undef), (some 112, undef), (some 113, undef), (some 114, undef), (some 115, undef), (some 116, .bool false)])
                 (fun _ L w' => w'.heap[w.heap.size]? = some (.cells f.v.toArray 87 (0, 0)) ∧ NandAt w' base g Y N ∧ Below wt.heap.size wt w') (fun _ => rfl) (by kernel_rfl) ⟨(), fun _ _ => ⟨HF.out, HN6.out.drew, (Below.refl _ wt).drew⟩⟩ ?_ ?_
                · refine ⟨?_, ?_, ?_, ?_, ?_, ?_, ?_, ?_, ?_, ?_, ?_, ?_, ?_, ?_, trivial⟩
                  · intro _ L w' hL hpre hJ a ha
                    obtain ⟨jf, jn, jb⟩ := hJ; simp [Region.binds] at hpre; refine .inl ⟨zaa rfl, ?_⟩; exact zah (.tmp 6) (.inl rfl) (.bool false) (by rw [ha, zac rfl]; rfl) ⟨(), _, rfl, rfl, jf, jn, jb⟩
                  · intro _ L w' hL hpre hJ a ha
                    obtain ⟨jf, jn, jb⟩ := hJ; simp [Region.binds] at hpre; refine .inl ⟨zaa rfl, ?_⟩; exact zah (.tmp 103) (.inl rfl) (.bool false) (evP ha 0 rfl (by simp [hpre]) (by simp) rfl) ⟨(), _, rfl, rfl, jf, jn, jb⟩
                  · intro _ L w' hL hpre hJ a ha
                    obtain ⟨jf, jn, jb⟩ := hJ; simp [Region.binds] at hpre; exact .inr ⟨zap (g := 1) (t := 104) (b := true) rfl rfl (evP ha 1 rfl (by simp [hpre]) (by simp) rfl), (), rfl, jf, jn, jb⟩
                  · intro _ L w' hL hpre hJ a ha
                    obtain ⟨jf, jn, jb⟩ := hJ; simp [Region.binds] at hpre; exact .inr ⟨zap (g := 1) (t := 104) (b := true) rfl rfl (evP ha 1 rfl (by simp [hpre]) (by simp) rfl), (), rfl, jf, jn, jb⟩
                  · intro _ L w' hL hpre hJ a ha
                    obtain ⟨jf, jn, jb⟩ := hJ; simp [Region.binds] at hpre; exact .inr ⟨zap (g := 1) (t := 104) (b := true) rfl rfl (evP ha 1 rfl (by simp [hpre]) (by simp) rfl), (), rfl, jf, jn, jb⟩
                  · intro _ L w' hL hpre hJ a ha
                    obtain ⟨jf, jn, jb⟩ := hJ; simp [Region.binds] at hpre; exact .inr ⟨zap (g := 1) (t := 104) (b := true) rfl rfl (evP ha 1 rfl (by simp [hpre]) (by simp) rfl), (), rfl, jf, jn, jb⟩
                  · intro _ L w' hL hpre hJ a ha
                    obtain ⟨jf, jn, jb⟩ := hJ; simp [Region.binds] at hpre; exact .inr ⟨zap (g := 1) (t := 104) (b := true) rfl rfl (evP ha 1 rfl (by simp [hpre]) (by simp) rfl), (), rfl, jf, jn, jb⟩
                  · intro _ L w' hL hpre hJ a ha
                    obtain ⟨jf, jn, jb⟩ := hJ; simp [Region.binds] at hpre; exact .inr ⟨zap (g := 1) (t := 104) (b := true) rfl rfl (evP ha 1 rfl (by simp [hpre]) (by simp) rfl), (), rfl, jf, jn, jb⟩
                  · intro _ L w' hL hpre hJ a ha
                    obtain ⟨jf, jn, jb⟩ := hJ; simp [Region.binds] at hpre; exact .inr ⟨zap (g := 1) (t := 104) (b := true) rfl rfl (evP ha 1 rfl (by simp [hpre]) (by simp) rfl), (), rfl, jf, jn, jb⟩
                  · intro _ L w' hL hpre hJ a ha
                    obtain ⟨jf, jn, jb⟩ := hJ; simp [Region.binds] at hpre; exact .inr ⟨zap (g := 1) (t := 104) (b := true) rfl rfl (evP ha 1 rfl (by simp [hpre]) (by simp) rfl), (), rfl, jf, jn, jb⟩
                  · intro _ L w' hL hpre hJ a ha
                    obtain ⟨jf, jn, jb⟩ := hJ; simp [Region.binds] at hpre; exact .inr ⟨zap (g := 1) (t := 104) (b := true) rfl rfl (evP ha 1 rfl (by simp [hpre]) (by simp) rfl), (), rfl, jf, jn, jb⟩
                  · intro _ L w' hL hpre hJ a ha
                    obtain ⟨jf, jn, jb⟩ := hJ; simp [Region.binds] at hpre; exact .inr ⟨zap (g := 1) (t := 104) (b := true) rfl rfl (evP ha 1 rfl (by simp [hpre]) (by simp) rfl), (), rfl, jf, jn, jb⟩
                  · intro _ L w' hL hpre hJ a ha
                    obtain ⟨jf, jn, jb⟩ := hJ; simp [Region.binds] at hpre; exact .inr ⟨zap (g := 1) (t := 104) (b := true) rfl rfl (evP ha 1 rfl (by simp [hpre]) (by simp) rfl), (), rfl, jf, jn, jb⟩
                  · intro _ L w' hL hpre hJ a ha
                    obtain ⟨jf, jn, jb⟩ := hJ; simp [Region.binds] at hpre; refine .inl ⟨zaa rfl, ?_⟩; have e104 : a.eval (.tmp 104) = .bool false := evP ha 1 rfl (by simp [hpre]) (by simp) rfl; clear ha; have jf' := Lib.hid jf; have jn' := Lib.hid jn; have jb' := Lib.hid jb; clear jf jn jb; refine zab fun K HK => ?_; unfold Oper.wp; simp only [execOp, e104]; go_simp; exact HK.out _ _ ⟨(), _, rfl, rfl, jf'.out, jn'.out, jb'.out⟩
                · intro _ L w' hL hJ
                  obtain ⟨jf, jn, jb⟩ := hJ; clear hL; simp only [List.foldl_cons, List.foldl_nil]; go_simp; go_wp2_with fail
                  go_ret
                  exact ⟨by rw [HPL.out.1]; rfl, ⟨Y, Nat.le_succ _, by rw [HPL.out.2]; exact jn⟩, HFt.out.trans (Fr.of_below jb)⟩
      · have HPL := Lib.hid (HPF.out.k0 hk1 hk2 hk3 hk4 hk5)
        have b1 : (f.k == (1 : Int)) = false := by simpa using hk1
        have b2 : (f.k == (2 : Int)) = false := by simpa using hk2
        have b3 : (f.k == (3 : Int)) = false := by simpa using hk3
        have b4 : (f.k == (4 : Int)) = false := by simpa using hk4
        have b5 : (f.k == (5 : Int)) = false := by simpa using hk5
        clear hk1 hk2 hk3 hk4 hk5; go_wp2_with fail
        go_ret
        exact ⟨by rw [HPL.out.1]; rfl, ⟨Y, Nat.le_succ _, by rw [HPL.out.2]; exact HN3.out⟩, HFR.out⟩
end
end Go.Proofs.YtpbigfopmompfaaGreat.nand
namespace Go.Proofs.YtpbigfopmompfaaGreat.nand
open Go.RowKit
set_option linter.unusedVariables false
def NandIn (w : World) (base g m : Nat) (N : Nd) : Prop := ∃ Y : Lay, Y.np ≤ m ∧ NandAt w base g Y N
section
variable {w w' : World} {base g m : Nat} {Y : Lay} {N : Nd}
theorem NandIn.ok (h : NandIn w base g m N) : N.ok := by obtain ⟨Y, -, h⟩ := h; exact h.ok
theorem NandIn.below (h : NandIn w base g m N) (hb : Below w.heap.size w w') : NandIn w' base g m N := by obtain ⟨Y, h1, h⟩ := h; exact ⟨Y, h1, h.below hb⟩
theorem NandIn.drew (h : NandIn w base g m N) : NandIn w.drew base g m N := by obtain ⟨Y, h1, h⟩ := h; exact ⟨Y, h1, h.drew⟩
theorem NandIn.mono (h : NandIn w base g m N) {m' : Nat} (hm : m ≤ m') : NandIn w base g m' N := by obtain ⟨Y, h1, h⟩ := h; exact ⟨Y, Nat.le_trans h1 hm, h⟩
theorem NandIn.low (h : NandIn w base g m N) : base ≤ w.heap.size := by
 obtain ⟨Y, -, h⟩ := h
 exact Nat.le_of_lt (Nat.lt_of_le_of_lt h.lowg.1 (zag h.head))
theorem NandIn.lt (h : NandIn w base g m N) : g < w.heap.size := by
 obtain ⟨Y, -, h⟩ := h
 exact zag h.head
theorem NandIn.keep (h : NandIn w base g m N) {S : Nat → Prop} (hk : Keep S w w') (hS : ∀ k, S k → (∃ cs t fr, w.heap[k]? = some (.cells cs t fr) ∧ nandT t = false) ∨ (g < k ∧ ∃ o, w.heap[k]? = some o ∧ kindO o = none)) : NandIn w' base g m N := by
 obtain ⟨Y, h1, h⟩ := h
 have hno : ∀ k o, w.heap[k]? = some o → (∀ t, kindO o = some t → nandT t = true) → (kindO o = none → k ≤ g) → ¬ S k := fun k o ho ht hl hs => by
  rcases hS k hs with ⟨cs, t, fr, h2, h3⟩ | ⟨h2, o', h3, h4⟩
  · rw [h2] at ho
    have := Option.some.inj ho; subst this; rw [ht t rfl] at h3; cases h3
  · rw [h3] at ho
    have := Option.some.inj ho; subst this; have := hl h4; omega
 refine ⟨Y, h1, h.ok, (hk.block g (zag h.head) (hno g _ h.head (fun t e => by cases e; rfl) (fun e => by cases e))).trans h.head, h.lowg, h.body.keep fun j hj => ?_⟩
 obtain ⟨o, ho, hn, -⟩ := h.body.foot hj
 refine hk.block j (h.body.lt hj) (hno j o ho (fun t e => (hn t e).1) fun e => ?_)
 rcases hj with rfl | rfl | rfl | hj | ⟨d, b, hd, hb, rfl | hj⟩
 · exact h.lowg.2.2
 · rw [h.body.plan.1] at ho
   have := Option.some.inj ho; subst this; cases e
 · exact h.lowg.2.1
 · obtain ⟨cur, h2, h3⟩ := za5 h.body.dead hj
   rw [h2] at ho; have := Option.some.inj ho; subst this; cases e
 · rw [h.body.blk d b hd hb] at ho
   have := Option.some.inj ho; subst this; cases e
 · obtain ⟨cur, h2, h3⟩ := za5 (h.body.rows d b hd hb).1 hj
   rw [h2] at ho; have := Option.some.inj ho; subst this; cases e
theorem NandIn.other (h : NandIn w base g m N) {k : Nat} {cs : Array Value} {t : TypeId} {fr : Nat × Nat} (hg : w.grownBy w' (some k)) (hk : w.heap[k]? = some (.cells cs t fr)) (ht : nandT t = false) : NandIn w' base g m N := by
 obtain ⟨Y, h1, h⟩ := h
 exact ⟨Y, h1, h.other hg hk ht⟩
set_option maxRecDepth 100000 in
set_option maxHeartbeats 4000000 in
theorem program_no (h : NandAt w base g Y N) (x : Ad) (hx : x.wf) (hr : N.refuses x ≠ 0) (p : List Nat) :
 Calls Tryz.prog 48 #[.pointer (some ⟨g, 0, none⟩), .agg x.v.toArray, .agg (nats .u8 p).toArray] w fun e w' => e = .returned (.int .i64 (N.refuses x)) ∧ Below w.heap.size w w' := by
 have hbel := below2 w (.cells x.v.toArray 85) (.cells (nats .u8 p).toArray 90)
 have ha := zbi w (.cells x.v.toArray 85) (.cells (nats .u8 p).toArray 90)
 have hN := h.below hbel
 clear h
 go_enter Tryz.func48, Tryz.ntmps48
 go_upto_region 1 with fail
 change Code.wp _ _ _ _ ((w.alloc (.cells x.v.toArray 85)).alloc (.cells (nats .u8 p).toArray 90))
 generalize (w.alloc (.cells x.v.toArray 85)).alloc (.cells (nats .u8 p).toArray 90) = w2 at *
 obtain ⟨c0, c1, c2⟩ := ad_at ha
 have CR := Lib.hid (refuses_any hN x hx)
 have HB0 := Lib.hid hbel
 clear ha hN hbel
 go_wp2_with fail
 refine CR.out.mono ?_
 rintro e w3 ⟨rfl, hb⟩
 have HB := Lib.hid (HB0.out.trans (hb.mono HB0.out.size))
 have hrI : (N.refuses x == 0) = false := by simpa using hr
 have hrJ : (N.refuses x != 0) = true := by simpa using hr
 obtain ⟨rr, hrr⟩ : ∃ rr, rr = N.refuses x := ⟨_, rfl⟩
 rw [← hrr] at hrI hrJ ⊢
 have HRR := Lib.hid hrr
 clear hr hb CR HB0 hrr
 go_wp2_with fail
 go_ret
 exact ⟨by rw [← HRR.out]; rfl, HB.out⟩
theorem program_any (h : NandIn w base g m N) (x : Ad) (hx : x.wf) (p : List Nat) (hp : p.length = 32) (hpb : ∀ y ∈ p, y < 256) (hs : N.ops ≤ 1000000000000000) (hbr : N.broken ≤ 1000000000000000) :
 Calls Tryz.prog 48 #[.pointer (some ⟨g, 0, none⟩), .agg x.v.toArray, .agg (nats .u8 p).toArray] w fun e w' => e = .returned (.int .i64 (N.programE x p)) ∧ NandIn w' base g m (N.programN x p) ∧ Fr base g w w' := by
 obtain ⟨Y, hm, h⟩ := h
 by_cases hr : N.refuses x = 0
 · obtain ⟨-, hin, -⟩ := refuses_zero hr
   have hxin := in_iff hin; obtain ⟨q, hq⟩ := Int.eq_ofNat_of_zero_le hxin.2.2.1; refine (program_in h x hx _ _ q rfl rfl hq hr p hp hpb hs hbr).mono ?_; rintro e w' ⟨rfl, ⟨Y', e', hn⟩, hf⟩; exact ⟨rfl, ⟨Y', by omega, hn⟩, hf⟩
 · refine (program_no h x hx hr p).mono ?_
   rintro e w' ⟨rfl, hb⟩; have e1 : N.programE x p = N.refuses x := by simp [Nd.programE, hr]
   have e2 : N.programN x p = N := by simp [Nd.programN, hr]
   rw [e1, e2]; exact ⟨rfl, ⟨Y, hm, h.below hb⟩, Fr.of_below hb⟩
set_option maxRecDepth 100000 in
set_option maxHeartbeats 4000000 in
theorem erase_no (h : NandAt w base g Y N) (d b : Int) (hx : (key d b).wf) (hr : N.refuses (key d b) ≠ 0) :
 Calls Tryz.prog 46 #[.pointer (some ⟨g, 0, none⟩), .int .i64 d, .int .i64 b] w fun e w' => e = .returned (.int .i64 (N.refuses (key d b))) ∧ Below w.heap.size w w' := by
 have HN0 := Lib.hid h
 clear h
 go_enter Tryz.func46, Tryz.ntmps46
 go_wp2_with fail
 refine (key_any _ _ _).mono ?_
 rintro e w1 ⟨rfl, hb1⟩
 have CR := Lib.hid (refuses_any (HN0.out.below hb1) (key d b) hx)
 go_wp2_with fail
 refine CR.out.mono ?_
 rintro e w2 ⟨rfl, hb2⟩
 have HB := Lib.hid (hb1.trans (hb2.mono hb1.size))
 have hrI : (N.refuses (key d b) == 0) = false := by simpa using hr
 have hrJ : (N.refuses (key d b) != 0) = true := by simpa using hr
 obtain ⟨rr, hrr⟩ : ∃ rr, rr = N.refuses (key d b) := ⟨_, rfl⟩
 rw [← hrr] at hrI hrJ ⊢
 have HRR := Lib.hid hrr
 clear hb1 hb2 CR HN0 hr hrr
 go_wp2_with fail
 go_ret
 exact ⟨by rw [← HRR.out]; rfl, HB.out⟩
theorem erase_any (h : NandIn w base g m N) (d b : Int) (hx : (key d b).wf) (hs : N.ops ≤ 1000000000000000) (hw : (N.blk d.toNat b.toNat).worn ≤ 1000000000000000) (hm : m ≤ 100000) :
 Calls Tryz.prog 46 #[.pointer (some ⟨g, 0, none⟩), .int .i64 d, .int .i64 b] w fun e w' => e = .returned (.int .i64 (N.eraseE d b)) ∧ NandIn w' base g m (N.eraseN d b) ∧ Fr base g w w' := by
 obtain ⟨Y, hmy, h⟩ := h
 by_cases hr : N.refuses (key d b) = 0
 · obtain ⟨-, hin, -⟩ := refuses_zero hr
   have hxin := in_iff hin; obtain ⟨d', hd⟩ := Int.eq_ofNat_of_zero_le (show 0 ≤ d from hxin.1.1); obtain ⟨b', hb⟩ := Int.eq_ofNat_of_zero_le (show 0 ≤ b from hxin.2.1.1); subst hd hb; refine (erase_in h d' b' (by have : (key (d' : Int) (b' : Int)).d = d' := rfl; omega) (by have : (key (d' : Int) (b' : Int)).b = b' := rfl; omega) hr hs hw (by omega)).mono ?_; rintro e w' ⟨rfl, ⟨Y', e', hn⟩, hf⟩; exact ⟨rfl, ⟨Y', by omega, hn⟩, hf⟩
 · refine (erase_no h d b hx hr).mono ?_
   rintro e w' ⟨rfl, hb⟩; have e1 : N.eraseE d b = N.refuses (key d b) := by simp [Nd.eraseE, hr]
   have e2 : N.eraseN d b = N := by simp [Nd.eraseN, hr]
   rw [e1, e2]; exact ⟨rfl, ⟨Y, hmy, h.below hb⟩, Fr.of_below hb⟩
theorem fault_in (h : NandIn w base g m N) (f : Flt) (hf : f.wf) (hm : m ≤ 100000) :
 Calls Tryz.prog 47 #[.pointer (some ⟨g, 0, none⟩), .agg f.v.toArray] w fun e w' => e = .returned (.bool (N.faultB f)) ∧ NandIn w' base g (m + 1) (N.faultN f) ∧ Fr base g w w' := by
 obtain ⟨Y, hmy, h⟩ := h
 refine (fault_any h f hf (by omega)).mono ?_
 rintro e w' ⟨rfl, ⟨Y', e', hn⟩, hf⟩
 exact ⟨rfl, ⟨Y', by omega, hn⟩, hf⟩
theorem read_in (h : NandIn w base g m N) (x : Ad) (hx : x.wf) : Calls Tryz.prog 102 #[.pointer (some ⟨g, 0, none⟩), .agg x.v.toArray] w fun e w' => e = .returned (.tuple #[.agg (nats .u8 (N.readP x)).toArray, .int .i64 (N.readE x)]) ∧ Below w.heap.size w w' := by
 obtain ⟨Y, -, h⟩ := h
 exact read_any h x hx
theorem cut_in (h : NandIn w base g m N) (ops keep : Int) (ho : ops ≤ 9223372036854775807) : Calls Tryz.prog 103 #[.pointer (some ⟨g, 0, none⟩), .int .i64 ops, .int .i64 keep] w fun e w' => e = .returned (.tuple #[]) ∧ NandIn w' base g m (N.cutAt ops keep) ∧ Fr base g w w' := by
 obtain ⟨Y, hm, h⟩ := h
 refine (cutat_any h ops keep ho).mono ?_
 rintro e w' ⟨rfl, hn, hf⟩
 exact ⟨rfl, ⟨Y, hm, hn⟩, hf⟩
theorem on_in (h : NandIn w base g m N) : Calls Tryz.prog 104 #[.pointer (some ⟨g, 0, none⟩)] w fun e w' => e = .returned (.tuple #[]) ∧ NandIn w' base g m N.on ∧ Fr base g w w' := by
 obtain ⟨Y, hm, h⟩ := h
 refine (on_any h).mono ?_
 rintro e w' ⟨rfl, hn, hf⟩
 exact ⟨rfl, ⟨Y, hm, hn⟩, hf⟩
theorem ops_in (h : NandIn w base g m N) : Calls Tryz.prog 109 #[.pointer (some ⟨g, 0, none⟩)] w fun e w' => e = .returned (.int .i64 (N.ops : Int)) ∧ w = w' := by
 obtain ⟨Y, hm, h⟩ := h
 exact ops_any h
theorem broken_in (h : NandIn w base g m N) : Calls Tryz.prog 108 #[.pointer (some ⟨g, 0, none⟩)] w fun e w' => e = .returned (.int .i64 (N.broken : Int)) ∧ w = w' := by
 obtain ⟨Y, hm, h⟩ := h
 exact broken_any h
theorem next_in (h : NandIn w base g m N) (d b : Nat) (hd : d < N.D) (hb : b < N.B) : Calls Tryz.prog 87 #[.pointer (some ⟨g, 0, none⟩), .int .i64 (d : Int), .int .i64 (b : Int)] w fun e w' => e = .returned (.int .i64 ((N.blk d b).cells.length : Int)) ∧ Below w.heap.size w w' := by
 obtain ⟨Y, hm, h⟩ := h
 exact next_any h d b hd hb
theorem worn_in (h : NandIn w base g m N) (d b : Nat) (hd : d < N.D) (hb : b < N.B) : Calls Tryz.prog 85 #[.pointer (some ⟨g, 0, none⟩), .int .i64 (d : Int), .int .i64 (b : Int)] w fun e w' => e = .returned (.int .i64 ((N.blk d b).worn : Int)) ∧ Below w.heap.size w w' := by
 obtain ⟨Y, hm, h⟩ := h
 exact worn_any h d b hd hb
end
end Go.Proofs.YtpbigfopmompfaaGreat.nand
