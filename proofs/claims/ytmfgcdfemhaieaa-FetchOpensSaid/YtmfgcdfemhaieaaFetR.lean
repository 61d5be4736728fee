/- The reader: made; whether all was read; what ends a call that fails. -/
import Derived.Test.YtmfgcdfemhaieaaFetQ
namespace Go.Proofs.Ytmfgcdfemhaieaa
open Go.RowKit

/-- A reader: bytes that are left, whether it failed. Its bytes lie below its own block. -/
structure Rdr (W : World) (q : Nat) (bs : List Int) (fl : Bool) : Prop where
  st : ∃ A c, W.heap[q]? = some (.cells #[.slice A bs.length c, .bool fl] 98 (0, 0)) ∧ bs.length ≤ c ∧ RdI W q .u8 A bs
theorem Rdr.lt {W : World} {q : Nat} {bs : List Int} {fl : Bool} (H : Rdr W q bs fl) : q < W.heap.size := by
  obtain ⟨A, c, hr, _⟩ := H.st
  exact row_lt hr
theorem Rdr.below {W W' : World} {q B : Nat} {bs : List Int} {fl : Bool} (H : Rdr W q bs fl) (hb : Below B W W') (hB : q < B) : Rdr W' q bs fl := by
  obtain ⟨A, c, hr, hc, hR⟩ := H.st
  exact ⟨⟨A, c, by rw [hb.block _ hB]; exact hr, hc, hR.below (hb.mono (Nat.le_of_lt hB))⟩⟩
def NewRPost (bs : List Int) (w : World) (e : Ending) (w' : World) : Prop := ∃ q, e = .returned (.pointer (some ⟨q, 0, none⟩)) ∧ w.heap.size ≤ q ∧ Rdr w' q bs false ∧ Below w.heap.size w w'
set_option maxRecDepth 100000 in
theorem newReader_any (A : Option Addr) (n c : Nat) (xs : List Int) (B : Nat) (w : World) (hn : xs.length = n) (HR : RdI w B .u8 A xs) (hB : B ≤ w.heap.size) (hL : n ≤ 1099511627776) :
    Calls Try.prog 30 #[.slice A n c] w (NewRPost xs w) := by
  have hcl := clone_bytes A n c xs B w hn HR hB hL
  have Hcl := keep hcl
  clear hcl HR hn
  go_enter Try.func30, Try.ntmps30
  go_wp2_with fail
  refine Hcl.out.mono ?_
  rintro e w1 ⟨A1, c1, rfl, hc1, hR1, hB1⟩
  have HR1 := keep hR1
  have Hc1 := keep hc1
  have HB1 := keep hB1
  clear hR1 hc1 hB1 Hcl
  go_wp2
  go_ret
  have hal : Below w1.heap.size w1 (w1.alloc (.cells #[.slice A1 xs.length c1, .bool false] 98)) := (Below.refl _ _).alloc (Nat.le_refl _) _
  exact ⟨w1.heap.size, rfl, HB1.out.size, ⟨⟨A1, c1, heap_alloc_new w1 _, Hc1.out, HR1.out.below hal⟩⟩, HB1.out.trans (hal.mono HB1.out.size)⟩
set_option maxRecDepth 100000 in
theorem rdone_any {q : Nat} {bs : List Int} {fl : Bool} (w : World) (H : Rdr w q bs fl) :
    Calls Try.prog 33 #[.pointer (some ⟨q, 0, none⟩)] w fun e w' => e = .returned (.int .i64 (if fl = true ∨ bs ≠ [] then 20 else 0)) ∧ w' = w := by
  obtain ⟨A, c, hr, _, _⟩ := H.st
  have c0 : w.cell? ⟨q, 0, none⟩ = some (.slice A bs.length c) := cell_of_row _ _ 0 _ _ _ hr
  have c1 : w.cell? ⟨q, 1, none⟩ = some (.bool fl) := cell_of_row _ _ 1 _ _ _ hr
  clear H hr
  cases fl with
  | true =>
    have e : (if true = true ∨ bs ≠ [] then (20 : Int) else 0) = 20 := by simp
    rw [e]
    generalize bs.length = n at *
    go_enter Try.func33, Try.ntmps33
    go_wp2
    go_ret
    exact ⟨rfl, rfl⟩
  | false =>
    cases bs with
    | nil =>
      go_enter Try.func33, Try.ntmps33
      go_wp2
      go_ret
      exact ⟨rfl, rfl⟩
    | cons b bs =>
      have ht : 0 < (b :: bs).length := by simp
      have e : (if false = true ∨ b :: bs ≠ [] then (20 : Int) else 0) = 20 := by simp
      rw [e]
      generalize (b :: bs).length = n at *
      go_enter Try.func33, Try.ntmps33
      go_wp2
      go_ret
      exact ⟨rfl, rfl⟩
set_option maxRecDepth 100000 in
theorem must_yes (w : World) : Calls Try.prog 62 #[.bool true] w fun e w' => e = .returned (.tuple #[]) ∧ w' = w := by
  go_enter Try.func62, Try.ntmps62
  go_wp2
  go_end0
  exact ⟨rfl, rfl⟩
def stoppedV : Value := .iface 119 (.agg #[])
set_option maxRecDepth 100000 in
theorem must_no (w : World) : Calls Try.prog 62 #[.bool false] w fun e w' => e = .panicked [{ v := stoppedV, recovered := false }] ∧ w' = w := by
  go_enter Try.func62, Try.ntmps62
  go_wp2
  exact ⟨rfl, rfl, rfl⟩
end Go.Proofs.Ytmfgcdfemhaieaa
