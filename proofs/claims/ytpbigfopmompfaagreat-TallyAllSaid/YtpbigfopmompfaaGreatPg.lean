import Derived.Test.YtpbigfopmompfaaGreatAd
import Derived.Test.YtpbigfopmompfaaGreatBunE
import Derived.Test.YtpbigfopmompfaaGreatFlat
/- Pages (thirty-two bytes) as keys of maps. -/
namespace Go.Proofs.YtpbigfopmompfaaGreat.pg
open Go.RowKit
open Go.Maps (Keyed)
set_option linter.unusedVariables false
def wfP (p : List Nat) : Prop := p.length = 32 ∧ ∀ x ∈ p, x < 256
theorem pg_row : (90 : TypeId) < Tryz.prog.types.size := of_decide_eq_true (by kernel_rfl)
theorem pg_wide : (match Tryz.prog.underlying 90 with | some (.array _ _) | some (.struct _) => true | _ => false) = true := by rw [Tryz.underlying90]
theorem pg_kt : Tryz.prog.keyTypeAt 2 90 = true := by kernel_rfl
set_option maxRecDepth 100000 in
theorem keyed : Keyed Tryz.prog 90 := Keyed.of_law (deep_law_laid ad_laidOut (m := 2) (by omega) pg_row pg_kt pg_wide)
theorem pg_deep : Tryz.prog.keyType 90 = true := by kernel_rfl
theorem pg_cells : Tryz.prog.cellsOf 90 = 32 := by kernel_rfl
theorem u8_cells : Tryz.prog.cellsOf 5 = 1 := by kernel_rfl
theorem keyLits_u8 (d : Nat) (c : Value) (l : List Lit) : Tryz.prog.keyLits (d + 1) 5 [c] = some l ↔ ∃ n, c = .int .u8 n ∧ (Lit.int .u8 n).wf = true ∧ l = [.int .u8 n] := by
 unfold Program.keyLits
 rw [Tryz.underlying5]
 cases c <;> simp
 rename_i q n
 constructor
 · rintro ⟨⟨rfl, h⟩, rfl⟩; exact ⟨n, ⟨rfl, rfl⟩, h, rfl⟩
 · rintro ⟨m, ⟨rfl, rfl⟩, h, rfl⟩; exact ⟨⟨rfl, h⟩, rfl⟩
theorem mapM_all {α β : Type} {f : α → Option β} : ∀ {l : List α}, (∀ x ∈ l, ∃ y, f x = some y) → ∃ ys, l.mapM f = some ys
 | [], _ => ⟨[], rfl⟩
 | a :: l, h => by
  obtain ⟨y, hy⟩ := h a (by simp); obtain ⟨ys, hys⟩ := mapM_all (l := l) fun x hx => h x (by simp [hx])
  exact ⟨y :: ys, by rw [List.mapM_cons, hy, hys]; rfl⟩
theorem mapM_inv {α β : Type} {f : α → Option β} : ∀ {l : List α} {ys : List β}, l.mapM f = some ys → ∀ x ∈ l, ∃ y, f x = some y
 | [], _, _, x, hx => by simp at hx
 | a :: l, ys, h, x, hx => by
  rw [List.mapM_cons] at h; simp only [Option.bind_eq_bind, Option.bind_eq_some_iff] at h; obtain ⟨y, hy, ys', hys, -⟩ := h; rcases List.mem_cons.1 hx with rfl | hx
  · exact ⟨y, hy⟩
  · exact mapM_inv hys x hx
theorem open_bytes' : ∀ {n : Nat} {cs : List Value}, okAll (List.replicate n (Kd.int .u8)) cs = true → ∃ d : List Nat, cs = nats .u8 d ∧ d.length = n ∧ ∀ x ∈ d, x < 256
 | 0, [], _ => ⟨[], rfl, rfl, by simp⟩
 | 0, _ :: _, h => by simp [okAll] at h
 | n + 1, [], h => by simp [okAll, List.replicate_succ] at h
 | n + 1, c :: cs, h => by
  rw [List.replicate_succ] at h; simp only [okAll, Bool.and_eq_true] at h; obtain ⟨x, rfl, hx⟩ := zb3 h.1; have hw := wf_u8 hx; obtain ⟨d, rfl, hl, hd⟩ := open_bytes' h.2; obtain ⟨X, rfl⟩ := Int.eq_ofNat_of_zero_le hw.1; refine ⟨X :: d, rfl, by simp [hl], fun y hy => ?_⟩; rcases List.mem_cons.1 hy with rfl | hy
  · omega
  · exact hd y hy
theorem keyLits_pg (d : Nat) (cs : List Value) : (∃ l, Tryz.prog.keyLits (d + 1 + 1) 90 cs = some l) ↔ ∃ p, cs = nats .u8 p ∧ wfP p := by
 unfold Program.keyLits
 rw [Tryz.underlying90]
 simp only []
 rw [pg_cells, u8_cells]
 constructor
 · rintro ⟨l, h⟩
   split at h
   · rename_i hl
     rw [Option.map_eq_some_iff] at h; obtain ⟨ys, h, -⟩ := h
     have hok : okAll (List.replicate 32 (Kd.int .u8)) cs = true := by
      have key : ∀ i (hi : i < cs.length), (Kd.int .u8).ok cs[i] = true := by
       intro i hi; obtain ⟨y, hy⟩ := mapM_inv h i (by simp; omega); rw [Nat.mul_one, show List.take 1 (cs.drop i) = [cs[i]] by rw [List.drop_eq_getElem_cons hi]; rfl] at hy; obtain ⟨n, hn, hw, -⟩ := (keyLits_u8 d _ _).1 hy; rw [hn]; simp [Kd.ok, hw]
      rw [← hl]; clear h hl; induction cs with
      | nil => rfl
      | cons c cs ih =>
       rw [List.length_cons, List.replicate_succ]; simp only [okAll, Bool.and_eq_true]; exact ⟨key 0 (by simp), ih fun i hi => key (i + 1) (by simpa using hi)⟩
     obtain ⟨p, rfl, h1, h2⟩ := open_bytes' hok; exact ⟨p, rfl, h1, h2⟩
   · cases h
 · rintro ⟨p, rfl, h1, h2⟩
   rw [if_pos (by rw [zaj]; exact h1)]
   obtain ⟨ys, hys⟩ := mapM_all (l := List.range 32) (f := fun i => Tryz.prog.keyLits (d + 1) 5 (List.take 1 (List.drop (i * 1) (nats .u8 p)))) (by
    intro i hi; have hi : i < 32 := by simpa using hi
    have hip : i < p.length := by omega
    have hin : i < (nats .u8 p).length := by rw [zaj]; exact hip
    have hw : (Lit.int .u8 (p[i] : Int)).wf = true := by
     have := h2 p[i] (List.getElem_mem hip); simp [Lit.wf, IntKind.min, IntKind.max, IntKind.bits, IntKind.signed]; omega
    have he : (nats .u8 p)[i] = .int .u8 (p[i] : Int) := by simp [nats]
    refine ⟨[.int .u8 (p[i] : Int)], ?_⟩; show Tryz.prog.keyLits (d + 1) 5 (List.take 1 (List.drop (i * 1) (nats .u8 p))) = _
    rw [Nat.mul_one, show List.take 1 ((nats .u8 p).drop i) = [(nats .u8 p)[i]] by rw [List.drop_eq_getElem_cons hin]; rfl]; exact (keyLits_u8 d _ _).2 ⟨_, he, hw, rfl⟩)
   rw [hys]; exact ⟨_, rfl⟩
noncomputable def klP (p : List Nat) : Lit := (keyOf Tryz.prog 90 (.agg (nats .u8 p).toArray)).getD (.bool false)
theorem keyOf_pg {p : List Nat} (h : wfP p) : keyOf Tryz.prog 90 (.agg (nats .u8 p).toArray) = some (klP p) := by
 have : ∃ l, keyOf Tryz.prog 90 (.agg (nats .u8 p).toArray) = some l := by
  obtain ⟨d, hd⟩ := types_some; unfold keyOf; rw [Tryz.underlying90]
  have hf : (Value.agg (nats .u8 p).toArray).formed Tryz.prog 90 = true := by
   unfold Value.formed; rw [Tryz.underlying90, pg_cells]; simp [zaj, h.1]
  obtain ⟨l, hk⟩ := (keyLits_pg d (nats .u8 p)).2 ⟨p, rfl, h⟩; simp only [pg_deep, hf, Bool.and_self, if_true, hd]; rw [show (Value.agg (nats .u8 p).toArray).cells.toList = nats .u8 p from rfl, hk]; exact ⟨_, rfl⟩
 obtain ⟨l, hl⟩ := this
 unfold klP
 rw [hl]; rfl
theorem klP_inj {p p' : List Nat} (h : wfP p) (h' : wfP p') (e : klP p = klP p') : p = p' := by
 have := keyed.inj (keyOf_pg h) (by rw [e]; exact keyOf_pg h')
 simp at this
 exact nats_inj.1 this
end Go.Proofs.YtpbigfopmompfaaGreat.pg
