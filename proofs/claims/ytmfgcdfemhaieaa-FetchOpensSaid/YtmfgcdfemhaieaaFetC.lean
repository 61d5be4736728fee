/- A fetch's struct in memory: its cells, what a store to one of them leaves; how many bytes there are to be; whether it is over. -/
import Derived.Test.YtmfgcdfemhaieaaKeyEq
import Derived.Test.YtmfgcdfemhaieaaShaJ
import Derived.Deep.MidRow
namespace Go.Proofs.Ytmfgcdfemhaieaa
open Go.RowKit

/-- The cells of a row of the package "a", version 1.0.0. -/
def headL (sum : List Int) (size : Int) : List Value := [.string ⟨#[97]⟩, .int .i64 1, .int .i64 0, .int .i64 0, .slice none 0 0] ++ sum.map (Value.int .u8) ++ [.int .i64 size, .slice none 0 0]
theorem headL_length {sum : List Int} {size : Int} (h : sum.length = 32) : (headL sum size).length = 39 := by simp [headL, h]
theorem headL_one (sum : List Int) (size : Int) : (headL sum size).toArray.all (·.oneCell') = true := by
  rw [Array.all_eq_true_iff_forall_mem]
  intro v hv
  simp only [headL, List.mem_toArray, List.mem_append, List.mem_cons, List.mem_map, List.not_mem_nil, or_false] at hv
  rcases hv with (hv | ⟨x, _, rfl⟩) | hv
  · rcases hv with rfl | rfl | rfl | rfl | rfl <;> rfl
  · rfl
  · rcases hv with rfl | rfl <;> rfl
theorem headL_set5 {sum : List Int} (size x : Int) (h : sum.length = 32) : (headL sum size).toArray.setIfInBounds 5 (.int .u8 x) = (headL (sum.set 0 x) size).toArray := by
  rw [List.setIfInBounds_toArray]
  congr 1
  simp only [headL]
  rw [List.set_append_left _ _ (by simp [h]), List.set_append_right _ _ (by simp)]
  simp [List.map_set]
theorem headL_set37 {sum : List Int} (size x : Int) (h : sum.length = 32) : (headL sum size).toArray.setIfInBounds 37 (.int .i64 x) = (headL sum x).toArray := by
  rw [List.setIfInBounds_toArray]
  congr 1
  simp only [headL]
  rw [List.set_append_right _ _ (by simp [h])]
  simp [h]
theorem headL_at5 {sum : List Int} (size : Int) (h : sum.length = 32) : (headL sum size).toArray[5]? = some (.int .u8 (sum.getD 0 0)) := by
  rw [List.getElem?_toArray]
  simp only [headL]
  rw [List.getElem?_append_left (by simp [h]), List.getElem?_append_right (by simp)]
  simp [List.getElem?_eq_getElem (show 0 < sum.length by omega), List.getD_eq_getElem?_getD]
theorem headL_at37 {sum : List Int} (size : Int) (h : sum.length = 32) : (headL sum size).toArray[37]? = some (.int .i64 size) := by
  rw [List.getElem?_toArray]
  simp only [headL]
  rw [List.getElem?_append_right (by simp [h])]
  simp [h]
def tailL (v : Value) (fa sp : Int) (dn fl : Bool) : List Value := [v, .int .i64 fa, .int .i64 sp, .bool dn, .bool fl]
theorem int_ret {k : IntKind} {a b : Int} (h : a = b) : Ending.returned (.int k a) = .returned (.int k b) := by rw [h]
/-- The struct's block. -/
structure Fet (W : World) (g : Nat) (sum : List Int) (size : Int) (v : Value) (fa sp : Int) (dn fl : Bool) : Prop where
  len : sum.length = 32
  row : W.heap[g]? = some (.cells (headL sum size ++ tailL v fa sp dn fl).toArray 70 (0, 0))
section
variable {W : World} {g : Nat} {sum : List Int} {size : Int} {v : Value} {fa sp : Int} {dn fl : Bool}
theorem Fet.lt (h : Fet W g sum size v fa sp dn fl) : g < W.heap.size := row_lt h.row
theorem Fet.free (h : Fet W g sum size v fa sp dn fl) (i : Nat) : W.frozen? ⟨g, i, none⟩ = false := frozen_of_row W g i _ _ h.row
theorem Fet.at_tail (h : Fet W g sum size v fa sp dn fl) (i : Nat) (x : Value) (hx : (tailL v fa sp dn fl)[i]? = some x) : W.cell? ⟨g, 39 + i, none⟩ = some x := by
  rw [cell_of_row W g (39 + i) _ _ _ h.row]
  rw [List.getElem?_toArray, List.getElem?_append_right (by rw [headL_length h.len]; omega), headL_length h.len]
  rw [← hx]
  congr 1
  omega
theorem Fet.at_head (h : Fet W g sum size v fa sp dn fl) (i : Nat) (hi : i < 39) : W.cell? ⟨g, i, none⟩ = (headL sum size)[i]? := by
  rw [cell_of_row W g i _ _ _ h.row, List.getElem?_toArray, List.getElem?_append_left (by rw [headL_length h.len]; omega)]
theorem Fet.size_ (h : Fet W g sum size v fa sp dn fl) : W.cell? ⟨g, 37, none⟩ = some (.int .i64 size) := by
  rw [h.at_head 37 (by omega), headL, List.getElem?_append_right (by simp [h.len])]
  simp [h.len]
theorem Fet.name (h : Fet W g sum size v fa sp dn fl) : W.cell? ⟨g, 0, none⟩ = some (.string ⟨#[97]⟩) := by
  rw [h.at_head 0 (by omega)]; simp [headL]
theorem Fet.b (h : Fet W g sum size v fa sp dn fl) : W.cell? ⟨g, 39, none⟩ = some v := h.at_tail 0 v rfl
theorem Fet.fa_ (h : Fet W g sum size v fa sp dn fl) : W.cell? ⟨g, 40, none⟩ = some (.int .i64 fa) := h.at_tail 1 _ rfl
theorem Fet.sp_ (h : Fet W g sum size v fa sp dn fl) : W.cell? ⟨g, 41, none⟩ = some (.int .i64 sp) := h.at_tail 2 _ rfl
theorem Fet.dn_ (h : Fet W g sum size v fa sp dn fl) : W.cell? ⟨g, 42, none⟩ = some (.bool dn) := h.at_tail 3 _ rfl
theorem Fet.fl_ (h : Fet W g sum size v fa sp dn fl) : W.cell? ⟨g, 43, none⟩ = some (.bool fl) := h.at_tail 4 _ rfl
theorem Fet.set_ (h : Fet W g sum size v fa sp dn fl) (i : Nat) (x : Value) {v' : Value} {fa' sp' : Int} {dn' fl' : Bool} (hx : (tailL v fa sp dn fl).set i x = tailL v' fa' sp' dn' fl') : Fet (W.setCell ⟨g, 39 + i, none⟩ x) g sum size v' fa' sp' dn' fl' := by
  refine ⟨h.len, ?_⟩
  rw [heap_setCell_same W g (39 + i) _ _ _ h.row, ← hx]
  congr 2
  rw [List.setIfInBounds_toArray, List.set_append_right _ _ (by rw [headL_length h.len]; omega), headL_length h.len]
  congr 3
  omega
theorem Fet.set_b (h : Fet W g sum size v fa sp dn fl) (x : Value) : Fet (W.setCell ⟨g, 39, none⟩ x) g sum size x fa sp dn fl := h.set_ 0 x rfl
theorem Fet.set_fa (h : Fet W g sum size v fa sp dn fl) (x : Int) : Fet (W.setCell ⟨g, 40, none⟩ (.int .i64 x)) g sum size v x sp dn fl := h.set_ 1 _ rfl
theorem Fet.set_sp (h : Fet W g sum size v fa sp dn fl) (x : Int) : Fet (W.setCell ⟨g, 41, none⟩ (.int .i64 x)) g sum size v fa x dn fl := h.set_ 2 _ rfl
theorem Fet.set_dn (h : Fet W g sum size v fa sp dn fl) (x : Bool) : Fet (W.setCell ⟨g, 42, none⟩ (.bool x)) g sum size v fa sp x fl := h.set_ 3 _ rfl
theorem Fet.set_fl (h : Fet W g sum size v fa sp dn fl) (x : Bool) : Fet (W.setCell ⟨g, 43, none⟩ (.bool x)) g sum size v fa sp dn x := h.set_ 4 _ rfl
theorem Fet.kept {W' : World} (h : Fet W g sum size v fa sp dn fl) (hb : W'.heap[g]? = W.heap[g]?) : Fet W' g sum size v fa sp dn fl := ⟨h.len, by rw [hb]; exact h.row⟩
theorem Fet.below {W' : World} {B : Nat} (h : Fet W g sum size v fa sp dn fl) (hb : Below B W W') (hg : g < B) : Fet W' g sum size v fa sp dn fl := h.kept (hb.block _ hg)
theorem Fet.sum_ (h : Fet W g sum size v fa sp dn fl) : W.rangeAt g 5 (sum.map (Value.int .u8)) := by
  intro j x hx
  have hj : j < 32 := by
    have := (List.getElem?_eq_some_iff.1 hx).1
    simpa [h.len] using this
  rw [h.at_head (5 + j) (by omega), headL, List.getElem?_append_left (by simp [h.len]; omega), List.getElem?_append_right (by simp)]
  simpa using hx
end

set_option maxRecDepth 100000 in
theorem size_any {g : Nat} {sum : List Int} {size : Int} {v : Value} {fa sp : Int} {dn fl : Bool} (w : World) (h : Fet w g sum size v fa sp dn fl) :
    Calls Try.prog 26 #[.pointer (some ⟨g, 0, none⟩)] w fun e w' => e = .returned (.int .i64 (max size 0)) ∧ w' = w := by
  have hc := h.size_
  have H := keep h
  clear h
  go_enter Try.func26, Try.ntmps26
  go_wp2
  all_goals
    go_ret
    exact ⟨int_ret (by omega), rfl⟩
set_option maxRecDepth 100000 in
theorem over_any {g : Nat} {sum : List Int} {size : Int} {v : Value} {fa sp : Int} {dn fl : Bool} (w : World) (h : Fet w g sum size v fa sp dn fl) :
    Calls Try.prog 25 #[.pointer (some ⟨g, 0, none⟩)] w fun e w' => e = .returned (.bool (dn || fl)) ∧ w' = w := by
  have hd := h.dn_
  have hf := h.fl_
  have H := keep h
  clear h
  go_enter Try.func25, Try.ntmps25
  cases dn <;> cases fl <;> (go_wp2; go_ret; exact ⟨rfl, rfl⟩)
end Go.Proofs.Ytmfgcdfemhaieaa
