/- The reference's version of a constant text. -/
import Derived.Test.YtmfgcdfemhaieaaFetA
import Derived.LoopN
namespace Go.Proofs.Ytmfgcdfemhaieaa
open Go.RowKit

set_option maxRecDepth 100000 in
theorem digits_zero (w : World) : Calls Try.prog 53 #[.string ⟨#[48]⟩] w fun e w' => e = .returned (.bool true) ∧ w' = w := by
  have hi : (Instr.index 9 (.string ⟨#[48]⟩) (.int .i64 0)).run Try.prog w = .ok (.int .u8 48) w := by kernel_rfl
  go_enter Try.func53, Try.ntmps53
  go_wp2
  refine wp_loop_rounds 2 ?_
  rw [rounds_succ]
  go_wp2
  rw [rounds_succ]
  go_wp2
  go_ret
  exact ⟨rfl, rfl⟩
set_option maxRecDepth 100000 in
theorem number_zero (w : World) : Calls Try.prog 44 #[.string ⟨#[48]⟩, .int .i64 999999999] w fun e w' => e = .returned (.tuple #[.int .i64 0, .bool true]) ∧ w' = w := by
  have hi : (Instr.index 9 (.string ⟨#[48]⟩) (.int .i64 0)).run Try.prog w = .ok (.int .u8 48) w := by kernel_rfl
  have hd := digits_zero w
  go_enter Try.func44, Try.ntmps44
  go_wp2_with fail
  refine hd.mono ?_
  rintro e w1 ⟨rfl, hw⟩
  rw [hw]
  clear hw
  go_wp2_with fail
  refine wp_loop_rounds 2 ?_
  rw [rounds_succ]
  go_wp2_with fail
  rw [rounds_succ]
  go_wp2_with fail
  go_ret2
  exact ⟨rfl, rfl⟩
set_option maxRecDepth 100000 in
theorem digits_one (w : World) : Calls Try.prog 53 #[.string ⟨#[49]⟩] w fun e w' => e = .returned (.bool true) ∧ w' = w := by
  have hi : (Instr.index 9 (.string ⟨#[49]⟩) (.int .i64 0)).run Try.prog w = .ok (.int .u8 49) w := by kernel_rfl
  go_enter Try.func53, Try.ntmps53
  go_wp2
  refine wp_loop_rounds 2 ?_
  rw [rounds_succ]
  go_wp2
  rw [rounds_succ]
  go_wp2
  go_ret
  exact ⟨rfl, rfl⟩
set_option maxRecDepth 100000 in
theorem number_one (w : World) : Calls Try.prog 44 #[.string ⟨#[49]⟩, .int .i64 999999999] w fun e w' => e = .returned (.tuple #[.int .i64 1, .bool true]) ∧ w' = w := by
  have hi : (Instr.index 9 (.string ⟨#[49]⟩) (.int .i64 0)).run Try.prog w = .ok (.int .u8 49) w := by kernel_rfl
  have hd := digits_one w
  go_enter Try.func44, Try.ntmps44
  go_wp2_with fail
  refine hd.mono ?_
  rintro e w1 ⟨rfl, hw⟩
  rw [hw]
  clear hw
  go_wp2_with fail
  refine wp_loop_rounds 2 ?_
  rw [rounds_succ]
  go_wp2_with fail
  rw [rounds_succ]
  go_wp2_with fail
  go_ret2
  exact ⟨rfl, rfl⟩
end Go.Proofs.Ytmfgcdfemhaieaa
