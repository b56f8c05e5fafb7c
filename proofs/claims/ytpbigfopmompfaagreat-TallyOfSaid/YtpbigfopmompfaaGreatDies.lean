import Derived.Test.YtpbigfopmompfaaGreatBits
import Derived.WalkSpells
/- The contracts of the reference's sets, of Short and of the library's Clone of bytes. -/
namespace Go.Proofs.YtpbigfopmompfaaGreat
open Go.RowKit
theorem clone_any (b o n c B : Nat) (l : List Nat) (w : World) (hr : Rd w B (some ⟨b, o, none⟩) n (nats .u8 l)) (hB : B ≤ w.heap.size) (hn : n ≤ 1000000) : Calls Tryz.prog 165 #[.slice (some ⟨b, o, none⟩) n c] w fun e w' =>
 ∃ v, e = .returned v ∧ w'.ownsRow w.heap.size 5 1 v n (nats .u8 l) ∧ Below w.heap.size w w' := by
 have hq := fun W : World => Lib.run_eql_slice_nil (P := Tryz.prog) W 183 5 (some ⟨b, o, none⟩) n c 0 0 Tryz.underlying183
 have hmade : (w.alloc (.cells #[] 5)).ownsRow w.heap.size 5 1 (.slice (some ⟨w.heap.size, 0, none⟩) 0 0) 0 [] := World.ownsRow_made w #[] 0 (Nat.le_refl _) (by unfold maxLen; omega) rfl
 have hbel : Below w.heap.size w (w.alloc (.cells #[] 5)) := (Below.refl _ _).alloc (Nat.le_refl _) _
 have hr2 : Rd (w.alloc (.cells #[] 5)) B (some ⟨b, o, none⟩) n (nats .u8 l) := hr.below hbel hB
 go_enter Tryz.func165, Tryz.ntmps165
 go_wp2_with (at_builtin; go_must (refine wpList_appendN rfl (.tmp 5) (.tmp 6) 183 rfl 5 _ _ Tryz.underlying183 u8Info rfl hmade hbel rfl rfl hr2 (one_nats _ _) (by unfold maxLen; omega) (by omega) (by simp) (Nat.le_refl _) ?_))
 intro v1 w1 hown1 hbel1 _ _
 go_wp2
 go_ret
 exact ⟨_, rfl, by simpa using hown1, hbel1⟩
theorem clone_nil (n c : Nat) (w : World) : Calls Tryz.prog 165 #[.slice none n c] w fun e w' =>
 e = .returned (.slice none 0 0) ∧ w = w' := by
 have hq := fun W : World => Lib.run_eql_slice_nil (P := Tryz.prog) W 183 5 none n c 0 0 Tryz.underlying183
 go_enter Tryz.func165, Tryz.ntmps165
 go_wp2
 go_ret
 exact ⟨rfl, rfl⟩
end Go.Proofs.YtpbigfopmompfaaGreat
