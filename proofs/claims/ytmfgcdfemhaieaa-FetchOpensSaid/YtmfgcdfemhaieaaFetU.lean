/- What a reader's call does that may fail: tried, caught. -/
import Derived.Test.YtmfgcdfemhaieaaFetT
import Derived.Tactics2
import Derived.Defers
import Derived.Recover
import Derived.Laws.Pointers
namespace Go.Proofs.Ytmfgcdfemhaieaa
open Go.RowKit

theorem wpS_hide {P : Program} {c : Code} {Q : Exit → Act → List Frame → World → Prop} {a : Act} {cs : List Frame} {w : World}
    (h : ∀ Q' : Exit → Act → World → Prop, (∀ e a w, Q e a cs w → Q' e a w) → c.wp P Q' a w) : c.wpS P Q a cs w := wpS_of_wp (h _ fun _ _ _ h => h)
set_option maxRecDepth 100000 in
set_option maxHeartbeats 1000000 in
theorem catch_idle (b3 b4 : Nat) (w : World) :
    CallsD Try.prog 61 #[.pointer (some ⟨b3, 0, none⟩), .pointer (some ⟨b4, 0, none⟩)] .returning w fun e u' w' => e = .returned (.tuple #[]) ∧ u' = .returning ∧ w' = w := by
  refine callsD_of_wpS Try.func61 rfl fun c₀ cs hu => ?_
  apply wpS_seq
  apply wpS_region
  simp [wpOpsS, go_sem, recoverD, hu, Try.ntmps61, Exit.thenS]
  have ea : #[Value.pointer (some ⟨b3, 0, none⟩), Value.pointer (some ⟨b4, 0, none⟩)] ++ ((Array.replicate 17 undef).setIfInBounds 3 Value.nilIface).setIfInBounds 0 Value.nilIface = #[Value.pointer (some ⟨b3, 0, none⟩), Value.pointer (some ⟨b4, 0, none⟩), Value.nilIface, undef, undef, Value.nilIface, undef, undef, undef, undef, undef, undef, undef, undef, undef, undef, undef, undef, undef] := by kernel_rfl
  rw [ea]
  clear ea
  refine wpS_hide fun Q hQ => ?_
  have HQ := keep hQ
  clear hQ
  go_wp2
  refine HQ.out _ _ _ ⟨rfl, .returning, ?_, .tuple #[], results_none rfl _ _ _, rfl, rfl, rfl⟩
  cases c₀
  simp_all
set_option maxRecDepth 100000 in
set_option maxHeartbeats 1000000 in
theorem catch_panicking (b3 b4 q : Nat) (x y : Value) (older : List PanicEntry) (w : World) (hl3 : b3 < w.heap.size) (hl4 : b4 < w.heap.size) (hlq : q < w.heap.size) (h3 : w.cell? ⟨b3, 0, none⟩ = some (.pointer (some ⟨q, 0, none⟩))) (hq : w.cell? ⟨q, 1, none⟩ = some x) (hqf : w.frozen? ⟨q, 1, none⟩ = false) (h4 : w.cell? ⟨b4, 0, none⟩ = some y) (h4f : w.frozen? ⟨b4, 0, none⟩ = false) :
    CallsD Try.prog 61 #[.pointer (some ⟨b3, 0, none⟩), .pointer (some ⟨b4, 0, none⟩)] (.panicking ({ v := stoppedV, recovered := false } :: older)) w fun e u' w' =>
      e = .returned (.tuple #[]) ∧ u' = .panicking ({ v := stoppedV, recovered := true } :: older) ∧ w' = ((w.setCell ⟨q, 1, none⟩ (.bool true)).setCell ⟨b4, 0, none⟩ (.bool false)).alloc (.cells #[] 119) := by
  have hta : ∀ W : World, (Instr.typeAssert (.iface 119 (.agg #[])) 20 119 true).run Try.prog W = .ok (.tuple #[.agg #[], .bool true]) W := fun W => by kernel_rfl
  refine callsD_of_wpS Try.func61 rfl fun c₀ cs hu => ?_
  apply wpS_seq
  apply wpS_region
  unfold stoppedV at *
  simp [wpOpsS, go_sem, recoverD, hu, Try.ntmps61, Exit.thenS]
  have ea : #[Value.pointer (some ⟨b3, 0, none⟩), Value.pointer (some ⟨b4, 0, none⟩)] ++ ((Array.replicate 17 undef).setIfInBounds 3 (Value.iface 119 (Value.agg #[]))).setIfInBounds 0 (Value.iface 119 (Value.agg #[])) = #[Value.pointer (some ⟨b3, 0, none⟩), Value.pointer (some ⟨b4, 0, none⟩), Value.iface 119 (Value.agg #[]), undef, undef, Value.iface 119 (Value.agg #[]), undef, undef, undef, undef, undef, undef, undef, undef, undef, undef, undef, undef, undef] := by kernel_rfl
  rw [ea]
  clear ea
  refine wpS_hide fun Q hQ => ?_
  have HQ := keep hQ
  clear hQ
  go_wp2
  refine HQ.out _ _ _ ⟨rfl, .panicking ({ v := .iface 119 (.agg #[]), recovered := true } :: older), rfl, .tuple #[], results_none rfl _ _ _, rfl, rfl, rfl⟩
end Go.Proofs.Ytmfgcdfemhaieaa
