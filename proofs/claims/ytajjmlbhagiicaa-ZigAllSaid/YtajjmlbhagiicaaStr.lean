import Derived.Test.YtajjmlbhagiicaaBunB
import Derived.Laws.BytesString
import Derived.Laws.Cells
/- Bytes to strings. -/
namespace Go.Proofs.Ytajjmlbhagiicaa
open Go.RowKit
/-- The string of a row of bytes. -/
def strN (l : List Nat) : ByteArray := (l.map fun n : Nat => (n : Int)).foldl (fun r n => r.push (UInt8.ofNat n.toNat)) ByteArray.empty
theorem run_str (A : Option Addr) (n c B : Nat) (l : List Nat) (w : World) (hr : Rd w B A n (nats .u8 l)) : (convert 34 9 (.slice A n c)).run Try.prog w = .ok (.string (strN l)) w := by
  have hl : l.length = n := by have := hr.1; rwa [nats_length] at this
  rw [run_convert_bytes_string w 34 9 5 A n c Try.underlying34 Try.underlying5 Try.underlying9]
  have hmap : (l.map fun n : Nat => (n : Int)).map (Value.int .u8) = nats .u8 l := by
    rw [nats, List.map_map]; rfl
  cases A with
  | none =>
    have h0 : l = [] := by
      apply List.eq_nil_of_length_eq_zero
      apply Nat.eq_zero_of_not_pos
      intro hp
      obtain ⟨b, o, e, _⟩ := hr.2 (by omega)
      cases e
    subst h0
    simp [Conv.bytesToString, Sem.run_pure, strN]
  | some a =>
    have hload : (loadCells a n).run Try.prog w = .ok (((l.map fun n : Nat => (n : Int)).map (Value.int .u8)).toArray) w := by
      rw [hmap]
      have h := run_loadCells_list (P := Try.prog) w a (nats .u8 l) (fun j v hj => by
        have hn : 0 < n := by
          have := (List.getElem?_eq_some_iff.1 hj).1
          rw [nats_length] at this; omega
        obtain ⟨b, o, e, hb, hc⟩ := hr.2 hn
        cases e
        rw [Addr.add_lit]
        exact hc j v hj)
      rw [nats_length, hl] at h
      exact h
    rw [run_bytesToString w a n c _ hload]; rfl
end Go.Proofs.Ytajjmlbhagiicaa
