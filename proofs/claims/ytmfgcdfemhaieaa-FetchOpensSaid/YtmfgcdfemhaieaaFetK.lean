/- A copy of bytes; all bytes, once they are there. -/
import Derived.Test.YtmfgcdfemhaieaaFetJ
namespace Go.Proofs.Ytmfgcdfemhaieaa
open Go.RowKit

def ClonePost (xs : List Int) (w : World) (e : Ending) (w' : World) : Prop := ∃ A c, e = .returned (.slice A xs.length c) ∧ xs.length ≤ c ∧ RdI w' w'.heap.size .u8 A xs ∧ Below w.heap.size w w'
set_option maxRecDepth 100000 in
set_option maxHeartbeats 2000000 in
theorem clone_bytes (A : Option Addr) (n c : Nat) (xs : List Int) (B : Nat) (w : World) (hn : xs.length = n) (HR : RdI w B .u8 A xs) (hB : B ≤ w.heap.size) (hL : n ≤ 1099511627776) :
    Calls Try.prog 29 #[.slice A n c] w (ClonePost xs w) := by
  have e1 : ∀ W, (binOp .eql 23 (.slice A n c) (.slice none 0 0)).run Try.prog W = .ok (.bool A.isNone) W := fun W => Lib.run_eql_slice_nil W 23 5 A n c 0 0 Try.underlying23
  have hbs : ∀ W : World, (Instr.buildSlice 23 0 #[]).run Try.prog W = .ok (.slice (some ⟨W.heap.size, 0, none⟩) 0 0) (W.alloc (.cells #[] 5)) := fun W => by kernel_rfl
  cases A with
  | none =>
    have h0 : xs = [] := by
      rcases Nat.eq_zero_or_pos xs.length with h | h
      · exact List.eq_nil_of_length_eq_zero h
      · obtain ⟨ad, he, _⟩ := HR.at_ h
        cases he
    subst h0
    simp only [Option.isNone] at e1
    have Hn := keep hn
    clear hn
    go_enter Try.func29, Try.ntmps29
    go_wp2
    go_ret
    exact ⟨none, 0, rfl, Nat.le_refl _, RdI.none_ _ _ _, Below.refl _ _⟩
  | some ad =>
    simp only [Option.isNone] at e1
    have Hn := keep hn
    clear hn
    go_enter Try.func29, Try.ntmps29
    have hO : OwnI (w.alloc (.cells #[] 5)) w.heap.size 5 .u8 (.slice (some ⟨w.heap.size, 0, none⟩) 0 0) [] :=
      ⟨⟨rfl, .inr ⟨w.heap.size, 0, #[], rfl, Nat.le_refl _, heap_alloc_new w _, Nat.le_refl _, Nat.zero_le _, rfl, rfl⟩⟩⟩
    have hb0 : Below w.heap.size w (w.alloc (.cells #[] 5)) := (Below.refl _ _).alloc (Nat.le_refl _) _
    have hR0 : RdI (w.alloc (.cells #[] 5)) B .u8 (some ad) xs := HR.below (hb0.mono hB)
    clear HR
    go_wp2_with (at_builtin; refine wpList_append_ints (w0 := w.alloc (.cells #[] 5)) (W := w.alloc (.cells #[] 5)) w.heap.size rfl (.tmp 5) (.tmp 6) 23 5 .u8 1 rfl Try.underlying23 info5 (.slice (some ⟨w.heap.size, 0, none⟩) 0 0) [] xs B (some ad) n c rfl rfl Hn.out hO hR0 (Below.refl _ _) hb0.size (by omega) (by simp; omega) ?_)
    rintro v1 w1 hO1 hB1 _ _
    obtain ⟨A1, c1, rfl, hc1, hR1⟩ := hO1.slice
    have HR1 := keep hR1
    have Hc1 := keep hc1
    clear hO1 hR1 hO hR0
    go_wp2
    go_ret
    exact ⟨A1, c1, rfl, Hc1.out, HR1.out, hb0.trans hB1⟩
def DonePost (xs : List Int) (w : World) (e : Ending) (w' : World) : Prop := ∃ A c, e = .returned (.tuple #[.slice A xs.length c, .bool true]) ∧ xs.length ≤ c ∧ RdI w' w'.heap.size .u8 A xs ∧ Below w.heap.size w w'
set_option maxRecDepth 100000 in
theorem done_yes {g : Nat} {sum : List Int} {size : Int} {bytes : List Int} {fa sp : Int} {fl : Bool} (w : World) (h : St w g sum size bytes fa sp true fl) (hn : bytes.length ≤ 1099511627776) :
    Calls Try.prog 13 #[.pointer (some ⟨g, 0, none⟩)] w (DonePost bytes w) := by
  obtain ⟨v, hF, hO⟩ := h.st
  obtain ⟨A, c, rfl, hc, hR⟩ := hO.slice
  have hcl := clone_bytes A bytes.length c bytes w.heap.size w rfl hR (Nat.le_refl _) hn
  have hcb := hF.b
  have hcd := hF.dn_
  have Hcl := keep hcl
  clear h hF hO hR hcl
  go_enter Try.func13, Try.ntmps13
  go_wp2_with fail
  refine Hcl.out.mono ?_
  rintro e w1 ⟨A1, c1, rfl, hc1, hR1, hB1⟩
  have HR1 := keep hR1
  have Hc1 := keep hc1
  clear hR1
  go_wp2
  go_ret2
  exact ⟨A1, c1, rfl, Hc1.out, HR1.out, hB1⟩
set_option maxRecDepth 100000 in
theorem done_no {g : Nat} {sum : List Int} {size : Int} {v : Value} {fa sp : Int} {fl : Bool} (w : World) (hF : Fet w g sum size v fa sp false fl) :
    Calls Try.prog 13 #[.pointer (some ⟨g, 0, none⟩)] w fun e w' => e = .returned (.tuple #[.slice none 0 0, .bool false]) ∧ w' = w := by
  have hcd := hF.dn_
  clear hF
  go_enter Try.func13, Try.ntmps13
  go_wp2
  go_ret2
  exact ⟨rfl, rfl⟩
end Go.Proofs.Ytmfgcdfemhaieaa
