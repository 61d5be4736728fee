/- The reference's version of the text "1.0.0". -/
import Derived.Test.YtmfgcdfemhaieaaFetB
import Derived.Test.YtmfgcdfemhaieaaKit3
namespace Go.Proofs.Ytmfgcdfemhaieaa
open Go.RowKit

def oneText : ByteArray := ⟨#[49, 46, 48, 46, 48]⟩
def splitL : List Value := [.string ⟨#[49]⟩, .string ⟨#[48]⟩, .string ⟨#[48]⟩]
def SplitPost (w : World) (e : Ending) (w' : World) : Prop := ∃ v, e = .returned v ∧ OwnV w' w.heap.size 9 v splitL ∧ Below w.heap.size w w'
theorem infoS : (Try.prog.info? 9).map (fun i => (i.zero, i.size, i.bytes)) = some (some (.string ⟨#[]⟩), 1, 16) := by kernel_rfl

set_option maxRecDepth 100000 in
set_option maxHeartbeats 4000000 in
theorem split_one (w : World) : Calls Try.prog 42 #[.string oneText, .int .u8 46] w (SplitPost w) := by
  have i0 : ∀ W : World, (Instr.index 9 (.string ⟨#[49, 46, 48, 46, 48]⟩) (.int .i64 0)).run Try.prog W = .ok (.int .u8 49) W := fun _ => by kernel_rfl
  have i1 : ∀ W : World, (Instr.index 9 (.string ⟨#[49, 46, 48, 46, 48]⟩) (.int .i64 1)).run Try.prog W = .ok (.int .u8 46) W := fun _ => by kernel_rfl
  have i2 : ∀ W : World, (Instr.index 9 (.string ⟨#[49, 46, 48, 46, 48]⟩) (.int .i64 2)).run Try.prog W = .ok (.int .u8 48) W := fun _ => by kernel_rfl
  have i3 : ∀ W : World, (Instr.index 9 (.string ⟨#[49, 46, 48, 46, 48]⟩) (.int .i64 3)).run Try.prog W = .ok (.int .u8 46) W := fun _ => by kernel_rfl
  have i4 : ∀ W : World, (Instr.index 9 (.string ⟨#[49, 46, 48, 46, 48]⟩) (.int .i64 4)).run Try.prog W = .ok (.int .u8 48) W := fun _ => by kernel_rfl
  have s0 : ∀ W : World, (Instr.slice 9 (.string ⟨#[49, 46, 48, 46, 48]⟩) (some (.int .i64 0)) (some (.int .i64 1)) none).run Try.prog W = .ok (.string ⟨#[49]⟩) W := fun _ => by kernel_rfl
  have s1 : ∀ W : World, (Instr.slice 9 (.string ⟨#[49, 46, 48, 46, 48]⟩) (some (.int .i64 2)) (some (.int .i64 3)) none).run Try.prog W = .ok (.string ⟨#[48]⟩) W := fun _ => by kernel_rfl
  have s2 : ∀ W : World, (Instr.slice 9 (.string ⟨#[49, 46, 48, 46, 48]⟩) (some (.int .i64 4)) (some (.int .i64 5)) none).run Try.prog W = .ok (.string ⟨#[48]⟩) W := fun _ => by kernel_rfl
  unfold oneText
  go_enter Try.func42, Try.ntmps42
  go_wp2
  refine wp_loop_rounds 7 ?_
  rw [rounds_succ]
  go_wp2
  rw [rounds_succ]
  go_wp2_with (at_builtin; refine wpList_append_vals (w0 := w) (W := w) w.heap.size rfl (.tmp 25) (.tmp 30) 26 9 _ 16 rfl Try.underlying26 infoS rfl (.slice none 0 0) [] [.string ⟨#[49]⟩] 1 rfl (by simp [Value.oneCell']) rfl rfl rfl (OwnV.none_ _ _ _) (Below.refl _ _) (Nat.le_refl _) (by omega) (by simp) ?_)
  rintro v1 w1 HO1 hB1 _ _
  have hz1 := hB1.size
  go_wp2
  rw [rounds_succ]
  go_wp2
  rw [rounds_succ]
  go_wp2_with (at_builtin; refine wpList_append_vals (w0 := w) (W := w1) w.heap.size rfl (.tmp 25) (.tmp 30) 26 9 _ 16 rfl Try.underlying26 infoS rfl v1 [.string ⟨#[49]⟩] [.string ⟨#[48]⟩] 1 rfl (by simp [Value.oneCell']) rfl rfl rfl HO1 hB1 hz1 (by omega) (by simp) ?_)
  rintro v2 w2 HO2 hB2 _ _
  have hz2 := hB2.size
  go_wp2
  rw [rounds_succ]
  go_wp2
  rw [rounds_succ]
  go_wp2_with (at_builtin; refine wpList_append_vals (w0 := w) (W := w2) w.heap.size rfl (.tmp 25) (.tmp 30) 26 9 _ 16 rfl Try.underlying26 infoS rfl v2 [.string ⟨#[49]⟩, .string ⟨#[48]⟩] [.string ⟨#[48]⟩] 1 rfl (by simp [Value.oneCell']) rfl rfl rfl HO2 hB2 hz2 (by omega) (by simp) ?_)
  rintro v3 w3 HO3 hB3 _ _
  go_wp2
  rw [rounds_succ]
  go_wp2
  go_ret
  exact ⟨v3, rfl, HO3, hB3⟩

def verZ : List Value := [.int .i64 0, .int .i64 0, .int .i64 0, .slice none 0 0]
def VerPost (w : World) (e : Ending) (w' : World) : Prop := e = .returned (.tuple #[.agg #[.int .i64 1, .int .i64 0, .int .i64 0, .slice none 0 0], .int .i64 0]) ∧ Below w.heap.size w w'
set_option maxRecDepth 100000 in
set_option maxHeartbeats 4000000 in
theorem version_one (w : World) : Calls Try.prog 21 #[.string oneText] w (VerPost w) := by
  have i0 : ∀ W : World, (Instr.index 9 (.string ⟨#[49, 46, 48, 46, 48]⟩) (.int .i64 0)).run Try.prog W = .ok (.int .u8 49) W := fun _ => by kernel_rfl
  have i1 : ∀ W : World, (Instr.index 9 (.string ⟨#[49, 46, 48, 46, 48]⟩) (.int .i64 1)).run Try.prog W = .ok (.int .u8 46) W := fun _ => by kernel_rfl
  have i2 : ∀ W : World, (Instr.index 9 (.string ⟨#[49, 46, 48, 46, 48]⟩) (.int .i64 2)).run Try.prog W = .ok (.int .u8 48) W := fun _ => by kernel_rfl
  have i3 : ∀ W : World, (Instr.index 9 (.string ⟨#[49, 46, 48, 46, 48]⟩) (.int .i64 3)).run Try.prog W = .ok (.int .u8 46) W := fun _ => by kernel_rfl
  have i4 : ∀ W : World, (Instr.index 9 (.string ⟨#[49, 46, 48, 46, 48]⟩) (.int .i64 4)).run Try.prog W = .ok (.int .u8 48) W := fun _ => by kernel_rfl
  have hsp := split_one
  unfold oneText at *
  go_enter Try.func21, Try.ntmps21
  go_wp2
  refine wp_loop_rounds 6 ?_
  rw [rounds_succ]
  go_wp2
  rw [rounds_succ]
  go_wp2
  rw [rounds_succ]
  go_wp2
  rw [rounds_succ]
  go_wp2
  rw [rounds_succ]
  go_wp2
  rw [rounds_succ]
  go_wp2_with fail
  refine (hsp _).mono ?_
  rintro e w1 ⟨v, rfl, HO, hB⟩
  obtain ⟨g, cap, rfl, _, _⟩ := HO.out.form (by simp [splitL])
  have hc0 : w1.cell? ⟨g, 0, none⟩ = some (.string ⟨#[49]⟩) := by
    have := HO.out.cells (g := g) rfl 0 (.string ⟨#[49]⟩) rfl
    simpa [Addr.add] using this
  have hc1 : w1.cell? ⟨g, 1, none⟩ = some (.string ⟨#[48]⟩) := by
    have := HO.out.cells (g := g) rfl 1 (.string ⟨#[48]⟩) rfl
    simpa [Addr.add] using this
  have hc2 : w1.cell? ⟨g, 2, none⟩ = some (.string ⟨#[48]⟩) := by
    have := HO.out.cells (g := g) rfl 2 (.string ⟨#[48]⟩) rfl
    simpa [Addr.add] using this
  have hB0 : Below w.heap.size w w1 := by
    refine Below.trans ?_ (hB.mono (by simp; omega))
    exact ((Below.refl _ _).alloc (Nat.le_refl _) _).alloc (by simp) _
  have hr1 : w1.heap[w.heap.size]? = some (.cells verZ.toArray 28 (0, 0)) := by
    rw [hB.block _ (by simp; omega), Below.heap_alloc (w.alloc (.cells #[.int .i64 0, .int .i64 0, .int .i64 0, .slice none 0 0] 28)) _ w.heap.size (by simp)]
    exact heap_alloc_new w _
  have hr2 : w1.heap[w.heap.size + 1]? = some (.cells verZ.toArray 28 (0, 0)) := by
    rw [hB.block _ (by simp)]
    have := heap_alloc_new (w.alloc (.cells #[.int .i64 0, .int .i64 0, .int .i64 0, .slice none 0 0] 28)) (.cells #[.int .i64 0, .int .i64 0, .int .i64 0, .slice none 0 0] 28)
    simpa [verZ] using this
  have hfa : ∀ i, w1.frozen? ⟨w.heap.size, i, none⟩ = false := fun i => frozen_of_row w1 w.heap.size i _ _ hr1
  have hfb : ∀ i, w1.frozen? ⟨w.heap.size + 1, i, none⟩ = false := fun i => frozen_of_row w1 (w.heap.size + 1) i _ _ hr2
  have ha0 : w1.cell? ⟨w.heap.size, 0, none⟩ = some (.int .i64 0) := cell_of_row w1 w.heap.size 0 _ _ _ hr1
  have ha1 : w1.cell? ⟨w.heap.size, 1, none⟩ = some (.int .i64 0) := cell_of_row w1 w.heap.size 1 _ _ _ hr1
  have ha2 : w1.cell? ⟨w.heap.size, 2, none⟩ = some (.int .i64 0) := cell_of_row w1 w.heap.size 2 _ _ _ hr1
  have ha3 : w1.cell? ⟨w.heap.size, 3, none⟩ = some (.slice none 0 0) := cell_of_row w1 w.heap.size 3 _ _ _ hr1
  have hb0 : w1.cell? ⟨w.heap.size + 1, 0, none⟩ = some (.int .i64 0) := cell_of_row w1 (w.heap.size + 1) 0 _ _ _ hr2
  have hb1 : w1.cell? ⟨w.heap.size + 1, 1, none⟩ = some (.int .i64 0) := cell_of_row w1 (w.heap.size + 1) 1 _ _ _ hr2
  have hb2 : w1.cell? ⟨w.heap.size + 1, 2, none⟩ = some (.int .i64 0) := cell_of_row w1 (w.heap.size + 1) 2 _ _ _ hr2
  have hb3 : w1.cell? ⟨w.heap.size + 1, 3, none⟩ = some (.slice none 0 0) := cell_of_row w1 (w.heap.size + 1) 3 _ _ _ hr2
  have hsz := row_lt hr2
  clear HO hB hr1 hr2 hsp
  have hn0 := number_one
  have hn1 := number_zero
  have hl : splitL.length = 3 := rfl
  rw [hl]
  clear hl
  go_wp2_with (go_at_call 44; first | ((with_reducible refine (hn0 _).mono ?_); rintro e w2 ⟨rfl, hw⟩; rw [hw]; clear hw) | ((with_reducible refine (hn1 _).mono ?_); rintro e w2 ⟨rfl, hw⟩; rw [hw]; clear hw))
  refine bodyPost_ret (v := .tuple #[.agg #[.int .i64 1, .int .i64 0, .int .i64 0, .slice none 0 0], .int .i64 0]) (by simp [results, Try.results21, go_sem, ha0, ha1, ha2, ha3]) rfl ⟨rfl, ?_⟩
  repeat (refine Below.setCell ?_ (by simp) _)
  exact hB0
end Go.Proofs.Ytmfgcdfemhaieaa
