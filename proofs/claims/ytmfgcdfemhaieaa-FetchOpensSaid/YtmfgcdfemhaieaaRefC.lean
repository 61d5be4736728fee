/- The reference's fetch in memory; a new one. -/
import Derived.Test.YtmfgcdfemhaieaaRefB
namespace Go.Proofs.Ytmfgcdfemhaieaa
open Go.RowKit

/-- The struct's block. -/
structure RFet (W : World) (g : Nat) (sum : List Int) (size : Int) (v : Value) (fa sp : Int) (dn fl : Bool) : Prop where
  len : sum.length = 32
  row : W.heap[g]? = some (.cells (headL sum size ++ tailL v fa sp dn fl).toArray 59 (0, 0))
section
variable {W : World} {g : Nat} {sum : List Int} {size : Int} {v : Value} {fa sp : Int} {dn fl : Bool}
theorem RFet.lt (h : RFet W g sum size v fa sp dn fl) : g < W.heap.size := row_lt h.row
theorem RFet.free (h : RFet W g sum size v fa sp dn fl) (i : Nat) : W.frozen? ⟨g, i, none⟩ = false := frozen_of_row W g i _ _ h.row
theorem RFet.at_tail (h : RFet W g sum size v fa sp dn fl) (i : Nat) (x : Value) (hx : (tailL v fa sp dn fl)[i]? = some x) : W.cell? ⟨g, 39 + i, none⟩ = some x := by
  rw [cell_of_row W g (39 + i) _ _ _ h.row]
  rw [List.getElem?_toArray, List.getElem?_append_right (by rw [headL_length h.len]; omega), headL_length h.len]
  rw [← hx]
  congr 1
  omega
theorem RFet.at_head (h : RFet W g sum size v fa sp dn fl) (i : Nat) (hi : i < 39) : W.cell? ⟨g, i, none⟩ = (headL sum size)[i]? := by
  rw [cell_of_row W g i _ _ _ h.row, List.getElem?_toArray, List.getElem?_append_left (by rw [headL_length h.len]; omega)]
theorem RFet.size_ (h : RFet W g sum size v fa sp dn fl) : W.cell? ⟨g, 37, none⟩ = some (.int .i64 size) := by
  rw [h.at_head 37 (by omega), headL, List.getElem?_append_right (by simp [h.len])]
  simp [h.len]
theorem RFet.name (h : RFet W g sum size v fa sp dn fl) : W.cell? ⟨g, 0, none⟩ = some (.string ⟨#[97]⟩) := by
  rw [h.at_head 0 (by omega)]; simp [headL]
theorem RFet.b (h : RFet W g sum size v fa sp dn fl) : W.cell? ⟨g, 39, none⟩ = some v := h.at_tail 0 v rfl
theorem RFet.fa_ (h : RFet W g sum size v fa sp dn fl) : W.cell? ⟨g, 40, none⟩ = some (.int .i64 fa) := h.at_tail 1 _ rfl
theorem RFet.sp_ (h : RFet W g sum size v fa sp dn fl) : W.cell? ⟨g, 41, none⟩ = some (.int .i64 sp) := h.at_tail 2 _ rfl
theorem RFet.dn_ (h : RFet W g sum size v fa sp dn fl) : W.cell? ⟨g, 42, none⟩ = some (.bool dn) := h.at_tail 3 _ rfl
theorem RFet.fl_ (h : RFet W g sum size v fa sp dn fl) : W.cell? ⟨g, 43, none⟩ = some (.bool fl) := h.at_tail 4 _ rfl
theorem RFet.set_ (h : RFet W g sum size v fa sp dn fl) (i : Nat) (x : Value) {v' : Value} {fa' sp' : Int} {dn' fl' : Bool} (hx : (tailL v fa sp dn fl).set i x = tailL v' fa' sp' dn' fl') : RFet (W.setCell ⟨g, 39 + i, none⟩ x) g sum size v' fa' sp' dn' fl' := by
  refine ⟨h.len, ?_⟩
  rw [heap_setCell_same W g (39 + i) _ _ _ h.row, ← hx]
  congr 2
  rw [List.setIfInBounds_toArray, List.set_append_right _ _ (by rw [headL_length h.len]; omega), headL_length h.len]
  congr 3
  omega
theorem RFet.set_b (h : RFet W g sum size v fa sp dn fl) (x : Value) : RFet (W.setCell ⟨g, 39, none⟩ x) g sum size x fa sp dn fl := h.set_ 0 x rfl
theorem RFet.set_fa (h : RFet W g sum size v fa sp dn fl) (x : Int) : RFet (W.setCell ⟨g, 40, none⟩ (.int .i64 x)) g sum size v x sp dn fl := h.set_ 1 _ rfl
theorem RFet.set_sp (h : RFet W g sum size v fa sp dn fl) (x : Int) : RFet (W.setCell ⟨g, 41, none⟩ (.int .i64 x)) g sum size v fa x dn fl := h.set_ 2 _ rfl
theorem RFet.set_dn (h : RFet W g sum size v fa sp dn fl) (x : Bool) : RFet (W.setCell ⟨g, 42, none⟩ (.bool x)) g sum size v fa sp x fl := h.set_ 3 _ rfl
theorem RFet.set_fl (h : RFet W g sum size v fa sp dn fl) (x : Bool) : RFet (W.setCell ⟨g, 43, none⟩ (.bool x)) g sum size v fa sp dn x := h.set_ 4 _ rfl
theorem RFet.kept {W' : World} (h : RFet W g sum size v fa sp dn fl) (hb : W'.heap[g]? = W.heap[g]?) : RFet W' g sum size v fa sp dn fl := ⟨h.len, by rw [hb]; exact h.row⟩
theorem RFet.below {W' : World} {B : Nat} (h : RFet W g sum size v fa sp dn fl) (hb : Below B W W') (hg : g < B) : RFet W' g sum size v fa sp dn fl := h.kept (hb.block _ hg)
theorem RFet.sum_ (h : RFet W g sum size v fa sp dn fl) : W.rangeAt g 5 (sum.map (Value.int .u8)) := by
  intro j x hx
  have hj : j < 32 := by
    have := (List.getElem?_eq_some_iff.1 hx).1
    simpa [h.len] using this
  rw [h.at_head (5 + j) (by omega), headL, List.getElem?_append_left (by simp [h.len]; omega), List.getElem?_append_right (by simp)]
  simpa using hx
end

set_option maxRecDepth 100000 in
theorem rsize_any {g : Nat} {sum : List Int} {size : Int} {v : Value} {fa sp : Int} {dn fl : Bool} (w : World) (h : RFet w g sum size v fa sp dn fl) :
    Calls Try.prog 37 #[.pointer (some ⟨g, 0, none⟩)] w fun e w' => e = .returned (.int .i64 (max size 0)) ∧ w' = w := by
  have hc := h.size_
  have H := keep h
  clear h
  go_enter Try.func37, Try.ntmps37
  go_wp2
  all_goals
    go_ret
    exact ⟨int_ret (by omega), rfl⟩
theorem rfetch_built : ∀ (sum : List Int) (size : Int), sum.length = 32 → Try.prog.built 59 [(0, .agg (headL sum size).toArray)] = some (headL sum size ++ tailL (.slice none 0 0) 0 0 false false).toArray
  | [s0, s1, s2, s3, s4, s5, s6, s7, s8, s9, s10, s11, s12, s13, s14, s15, s16, s17, s18, s19, s20, s21, s22, s23, s24, s25, s26, s27, s28, s29, s30, s31], size, _ => by kernel_rfl
theorem range_below {B b o : Nat} {w W : World} {cs : List Value} (h : Below B w W) (hb : b < B) (hr : w.rangeAt b o cs) : W.rangeAt b o cs := fun j v hv => (h.cell (p := ⟨b, o + j, none⟩) hb).trans (hr j v hv)
theorem of_nil (w : World) : Calls Try.prog 22 #[.slice none 0 0] w (SumPost [] w) := by
  have h := of_any none 0 [] w (by simp) ⟨fun j hj => by simp at hj⟩ (by simp)
  exact h
theorem head_range {W : World} {b : Nat} {t : TypeId} {sum : List Int} {size : Int} (hl : sum.length = 32) (h : W.heap[b]? = some (.cells (headL sum size).toArray t (0, 0))) : W.rangeAt b 5 (sum.map (Value.int .u8)) := by
  intro j x hx
  have hj : j < 32 := by
    have := (List.getElem?_eq_some_iff.1 hx).1
    simpa [hl] using this
  rw [cell_of_row W b (5 + j) _ _ _ h, List.getElem?_toArray, headL, List.getElem?_append_left (by simp [hl]; omega), List.getElem?_append_right (by simp)]
  simpa using hx
def RNewPost (sum : List Int) (size : Int) (D : Bool) (w : World) (e : Ending) (w' : World) : Prop := ∃ g, e = .returned (.pointer (some ⟨g, 0, none⟩)) ∧ w.heap.size ≤ g ∧ RFet w' g sum size (.slice none 0 0) 0 0 D D ∧ Below w.heap.size w w'
--[REG
set_option maxRecDepth 100000 in
set_option maxHeartbeats 2000000 in
theorem rnew_any (sum : List Int) (size : Int) (w : World) (hl : sum.length = 32) (D : Bool) (hD : (decide (size ≤ 0) && decide (sumP [] = sum)) = D) :
    Calls Try.prog 34 #[.agg (headL sum size).toArray] w (RNewPost sum size D w) := by
  have Hl := keep hl
  have Hsz : Keep ((headL sum size).toArray.size = 39) := ⟨headL_length hl⟩
  have HinF : Keep ((Try.prog.info? 33).map (·.size) = some (headL sum size).toArray.size) := ⟨by rw [Hsz.out]; kernel_rfl⟩
  have HD := keep hD
  clear hl hD
  go_enter Try.func34, Try.ntmps34
  go_wp2_with (first | (refine wpList_load_row rfl 33 (.tmp 1) rfl w.heap.size rfl 33 (headL sum size).toArray (0, 0) _ (heap_alloc_new w _) Try.underlying33 rfl HinF.out ?_) | (refine wpList_ok rfl (ex_build _ _ 59 _ rfl _ (headL sum size ++ tailL (.slice none 0 0) 0 0 false false).toArray (by kernel_rfl) (rfetch_built _ _ Hl.out) _) ?_))
  have hz : (w.alloc (.cells (headL sum size).toArray 33)).heap.size = w.heap.size + 1 := by simp
  have hF : RFet ((w.alloc (.cells (headL sum size).toArray 33)).alloc (.cells (headL sum size ++ tailL (.slice none 0 0) 0 0 false false).toArray 59)) (w.heap.size + 1) sum size (.slice none 0 0) 0 0 false false := by
    refine ⟨Hl.out, ?_⟩
    have := heap_alloc_new (w.alloc (.cells (headL sum size).toArray 33)) (.cells (headL sum size ++ tailL (.slice none 0 0) 0 0 false false).toArray 59)
    rw [hz] at this
    exact this
  have hb : Below w.heap.size w ((w.alloc (.cells (headL sum size).toArray 33)).alloc (.cells (headL sum size ++ tailL (.slice none 0 0) 0 0 false false).toArray 59)) := ((Below.refl _ _).alloc (Nat.le_refl _) _).alloc (by simp) _
  have hr : ((w.alloc (.cells (headL sum size).toArray 33)).alloc (.cells (headL sum size ++ tailL (.slice none 0 0) 0 0 false false).toArray 59)).heap[w.heap.size]? = some (.cells (headL sum size).toArray 33 (0, 0)) := by
    rw [Below.heap_alloc _ _ _ (by simp)]
    exact heap_alloc_new w _
  clear hz
  generalize (w.alloc (.cells (headL sum size).toArray 33)).alloc (.cells (headL sum size ++ tailL (.slice none 0 0) 0 0 false false).toArray 59) = w2 at hF hb hr ⊢
  have hlt := row_lt hr
  have H37 : Keep (w2.cell? ⟨w.heap.size, 37, none⟩ = some (.int .i64 size)) := ⟨by rw [cell_of_row _ _ 37 _ _ _ hr]; exact headL_at37 size Hl.out⟩
  have H5 := keep (head_range Hl.out hr)
  have HF := keep hF
  have Hb := keep hb
  clear hF hb hr
  by_cases hs : size ≤ 0
  · have Ht : Keep (decide (size ≤ 0) = true) := ⟨by simpa using hs⟩
    obtain ⟨E, hE⟩ : ∃ E, decide (sumP [] = sum) = E := ⟨_, rfl⟩
    have HD := keep (show E = D by rw [← HD.out, hE, Ht.out, Bool.true_and])
    have HE := keep hE
    clear hE hs
    refine rg_then (fun a' W => Below w2.heap.size w2 W ∧ a' = { tmps := #[.agg (headL sum size).toArray, .pointer (some ⟨w.heap.size, 0, none⟩), .pointer none, .pointer (some ⟨w.heap.size + 1, 0, none⟩), .agg (headL sum size).toArray, .agg (headL sum size ++ tailL (.slice none 0 0) 0 0 false false).toArray, .pointer (some ⟨w.heap.size + 1, 0, none⟩), .pointer (some ⟨w.heap.size, 37, none⟩), .int .i64 size, .bool true, .bool true, .agg (bys (sumP [])), .pointer (some ⟨w.heap.size, 5, none⟩), .agg (bys sum), .bool E, .bool E, undef, undef, undef, undef, undef, undef, undef], defers := [] }) ?_ ?_
    · refine rg_start (Below w2.heap.size w2) (by kernel_rfl) (Below.refl _ _).drew (fun h0 => ?_)
      refine rg_pure 0 (oi := { dst := some 7, op := Op.fieldAddr 33 (Operand.tmp 1) 3, type := 0, pos := "haversackref19.go:99", after := #[], guard := none }) (.pointer (some ⟨w.heap.size, 37, none⟩)) ({ tmps := #[.agg (headL sum size).toArray, .pointer (some ⟨w.heap.size, 0, none⟩), .pointer none, .pointer (some ⟨w.heap.size + 1, 0, none⟩), .agg (headL sum size).toArray, .agg (headL sum size ++ tailL (.slice none 0 0) 0 0 false false).toArray, .pointer (some ⟨w.heap.size + 1, 0, none⟩), .pointer (some ⟨w.heap.size, 37, none⟩), undef, undef, undef, undef, undef, undef, undef, undef, undef, undef, undef, undef, undef, undef, undef], defers := [] }) rfl (by kernel_rfl) (by kernel_rfl) (by kernel_rfl) (by kernel_rfl) (fun _ => by kernel_rfl) (by kernel_rfl) h0 ?_
      refine rg_read 1 (oi := { dst := some 8, op := Op.load 3 (Operand.tmp 7), type := 3, pos := "haversackref19.go:99", after := #[{ on := 0, ground := Ground.data }], guard := none }) (.int .i64 size) ({ tmps := #[.agg (headL sum size).toArray, .pointer (some ⟨w.heap.size, 0, none⟩), .pointer none, .pointer (some ⟨w.heap.size + 1, 0, none⟩), .agg (headL sum size).toArray, .agg (headL sum size ++ tailL (.slice none 0 0) 0 0 false false).toArray, .pointer (some ⟨w.heap.size + 1, 0, none⟩), .pointer (some ⟨w.heap.size, 37, none⟩), .int .i64 size, undef, undef, undef, undef, undef, undef, undef, undef, undef, undef, undef, undef, undef, undef], defers := [] }) rfl (by kernel_rfl) (by kernel_rfl) (by kernel_rfl) (by kernel_rfl) (fun W hW => ex_load1 _ _ 3 (.tmp 7) rfl ⟨w.heap.size, 37, none⟩ (by kernel_rfl) W (by kernel_rfl) _ ((hW.cell (p := ⟨w.heap.size, 37, none⟩) hlt).trans H37.out)) (by kernel_rfl) h0 ?_
      refine rg_pure 2 (oi := { dst := some 9, op := Op.binOp BinOp.leq 3 (Operand.tmp 8) (Operand.const (Value.int IntKind.i64 0)) 3, type := 4, pos := "haversackref19.go:99", after := #[{ on := 1, ground := Ground.data }], guard := none }) (.bool true) ({ tmps := #[.agg (headL sum size).toArray, .pointer (some ⟨w.heap.size, 0, none⟩), .pointer none, .pointer (some ⟨w.heap.size + 1, 0, none⟩), .agg (headL sum size).toArray, .agg (headL sum size ++ tailL (.slice none 0 0) 0 0 false false).toArray, .pointer (some ⟨w.heap.size + 1, 0, none⟩), .pointer (some ⟨w.heap.size, 37, none⟩), .int .i64 size, .bool true, undef, undef, undef, undef, undef, undef, undef, undef, undef, undef, undef, undef, undef], defers := [] }) rfl (by kernel_rfl) (by kernel_rfl) (by kernel_rfl) (by kernel_rfl) (fun _ => eq_bool (b := decide (size ≤ 0)) Ht.out (by kernel_rfl)) (by kernel_rfl) h0 ?_
      refine rg_pure 3 (oi := { dst := some 10, op := Op.move (Operand.tmp 9), type := 4, pos := "haversackref19.go:99", after := #[{ on := 2, ground := Ground.data }], guard := none }) (.bool true) ({ tmps := #[.agg (headL sum size).toArray, .pointer (some ⟨w.heap.size, 0, none⟩), .pointer none, .pointer (some ⟨w.heap.size + 1, 0, none⟩), .agg (headL sum size).toArray, .agg (headL sum size ++ tailL (.slice none 0 0) 0 0 false false).toArray, .pointer (some ⟨w.heap.size + 1, 0, none⟩), .pointer (some ⟨w.heap.size, 37, none⟩), .int .i64 size, .bool true, .bool true, undef, undef, undef, undef, undef, undef, undef, undef, undef, undef, undef, undef], defers := [] }) rfl (by kernel_rfl) (by kernel_rfl) (by kernel_rfl) (by kernel_rfl) (fun _ => by kernel_rfl) (by kernel_rfl) h0 ?_
      refine rg_pure 5 (oi := { dst := some 12, op := Op.fieldAddr 33 (Operand.tmp 1) 2, type := 0, pos := "haversackref19.go:99", after := #[{ on := 3, ground := Ground.guard }], guard := some (3, true) }) (.pointer (some ⟨w.heap.size, 5, none⟩)) ({ tmps := #[.agg (headL sum size).toArray, .pointer (some ⟨w.heap.size, 0, none⟩), .pointer none, .pointer (some ⟨w.heap.size + 1, 0, none⟩), .agg (headL sum size).toArray, .agg (headL sum size ++ tailL (.slice none 0 0) 0 0 false false).toArray, .pointer (some ⟨w.heap.size + 1, 0, none⟩), .pointer (some ⟨w.heap.size, 37, none⟩), .int .i64 size, .bool true, .bool true, undef, .pointer (some ⟨w.heap.size, 5, none⟩), undef, undef, undef, undef, undef, undef, undef, undef, undef, undef], defers := [] }) rfl (by kernel_rfl) (by kernel_rfl) (by kernel_rfl) (by kernel_rfl) (fun _ => by kernel_rfl) (by kernel_rfl) h0 ?_
      refine rg_read 6 (oi := { dst := some 13, op := Op.load 30 (Operand.tmp 12), type := 30, pos := "haversackref19.go:99", after := #[{ on := 5, ground := Ground.data }, { on := 3, ground := Ground.guard }], guard := some (3, true) }) (.agg (bys sum)) ({ tmps := #[.agg (headL sum size).toArray, .pointer (some ⟨w.heap.size, 0, none⟩), .pointer none, .pointer (some ⟨w.heap.size + 1, 0, none⟩), .agg (headL sum size).toArray, .agg (headL sum size ++ tailL (.slice none 0 0) 0 0 false false).toArray, .pointer (some ⟨w.heap.size + 1, 0, none⟩), .pointer (some ⟨w.heap.size, 37, none⟩), .int .i64 size, .bool true, .bool true, undef, .pointer (some ⟨w.heap.size, 5, none⟩), .agg (bys sum), undef, undef, undef, undef, undef, undef, undef, undef, undef], defers := [] }) rfl (by kernel_rfl) (by kernel_rfl) (by kernel_rfl) (by kernel_rfl) (fun W hW => ex_loadRow _ _ 30 (.tmp 12) rfl w.heap.size 5 (by kernel_rfl) (sum.map (Value.int .u8)) _ Try.underlying30 rfl (by rw [List.length_map, Hl.out]; kernel_rfl) W (range_below hW hlt H5.out)) (by kernel_rfl) h0 ?_
      refine rg_one 4 (oi := { dst := some 11, op := Op.call { callee := Callee.value (Operand.func 22), args := #[Operand.const (Value.slice none 0 0)], argTypes := #[67] }, type := 30, pos := "haversackref19.go:99", after := #[{ on := 3, ground := Ground.chain }, { on := 3, ground := Ground.guard }], guard := some (3, true) }) (by kernel_rfl) rfl (by kernel_rfl) ?_
      refine op_call (v := .agg (bys (sumP []))) (f := 22) (args := #[.slice none 0 0]) ({ tmps := #[.agg (headL sum size).toArray, .pointer (some ⟨w.heap.size, 0, none⟩), .pointer none, .pointer (some ⟨w.heap.size + 1, 0, none⟩), .agg (headL sum size).toArray, .agg (headL sum size ++ tailL (.slice none 0 0) 0 0 false false).toArray, .pointer (some ⟨w.heap.size + 1, 0, none⟩), .pointer (some ⟨w.heap.size, 37, none⟩), .int .i64 size, .bool true, .bool true, .agg (bys (sumP [])), .pointer (some ⟨w.heap.size, 5, none⟩), .agg (bys sum), undef, undef, undef, undef, undef, undef, undef, undef, undef], defers := [] }) (by kernel_rfl) (of_nil w2.drew) (by kernel_rfl) ?_
      intro W3 hb3
      have h3 := h0.trans (hb3.mono h0.size)
      refine ⟨h3, ?_⟩
      refine rg_pure 7 (oi := { dst := some 14, op := Op.binOp BinOp.eql 30 (Operand.tmp 11) (Operand.tmp 13) 30, type := 4, pos := "haversackref19.go:99", after := #[{ on := 4, ground := Ground.data }, { on := 6, ground := Ground.data }, { on := 3, ground := Ground.guard }], guard := some (3, true) }) (.bool E) ({ tmps := #[.agg (headL sum size).toArray, .pointer (some ⟨w.heap.size, 0, none⟩), .pointer none, .pointer (some ⟨w.heap.size + 1, 0, none⟩), .agg (headL sum size).toArray, .agg (headL sum size ++ tailL (.slice none 0 0) 0 0 false false).toArray, .pointer (some ⟨w.heap.size + 1, 0, none⟩), .pointer (some ⟨w.heap.size, 37, none⟩), .int .i64 size, .bool true, .bool true, .agg (bys (sumP [])), .pointer (some ⟨w.heap.size, 5, none⟩), .agg (bys sum), .bool E, undef, undef, undef, undef, undef, undef, undef, undef], defers := [] }) rfl (by kernel_rfl) (by kernel_rfl) (by kernel_rfl) (by kernel_rfl) (fun W => eq_bool (b := decide (sumP [] = sum)) HE.out (ex_eqlKey _ _ (.tmp 11) (.tmp 13) rfl (by kernel_rfl) (by kernel_rfl) (sumP_len []) Hl.out W)) (by kernel_rfl) h3 ?_
      refine rg_pure 8 (oi := { dst := some 15, op := Op.pick (Operand.tmp 10) (Operand.tmp 14) (Operand.const (Value.bool false)), type := 4, pos := "haversackref19.go:99", after := #[{ on := 3, ground := Ground.data }, { on := 7, ground := Ground.data }], guard := none }) (.bool E) ({ tmps := #[.agg (headL sum size).toArray, .pointer (some ⟨w.heap.size, 0, none⟩), .pointer none, .pointer (some ⟨w.heap.size + 1, 0, none⟩), .agg (headL sum size).toArray, .agg (headL sum size ++ tailL (.slice none 0 0) 0 0 false false).toArray, .pointer (some ⟨w.heap.size + 1, 0, none⟩), .pointer (some ⟨w.heap.size, 37, none⟩), .int .i64 size, .bool true, .bool true, .agg (bys (sumP [])), .pointer (some ⟨w.heap.size, 5, none⟩), .agg (bys sum), .bool E, .bool E, undef, undef, undef, undef, undef, undef, undef], defers := [] }) rfl (by kernel_rfl) (by kernel_rfl) (by kernel_rfl) (by kernel_rfl) (fun _ => by kernel_rfl) (by kernel_rfl) h3 ?_
      refine rg_done (by kernel_rfl) ⟨rfl, ?_⟩ _
      exact ⟨h3, rfl⟩
    · rintro a' W ⟨hB, rfl⟩
      have hF3 := HF.out.below hB HF.out.lt
      have hb3 := Hb.out.trans (hB.mono Hb.out.size)
      have c42 := hF3.dn_
      have c43 := hF3.fl_
      have f42 := hF3.free 42
      have f43 := hF3.free 43
      have hlt3 := hF3.lt
      have HF3 := keep hF3
      have Hb3 := keep hb3
      clear hF3 hb3 hB
      cases E with
      | false =>
        go_wp2
        go_ret
        rw [← HD.out]
        exact ⟨w.heap.size + 1, rfl, Nat.le_succ _, HF3.out, Hb3.out⟩
      | true =>
        have hF4 := (HF3.out.set_dn true).set_fl true
        have hb4 := (Hb3.out.setCell (p := ⟨w.heap.size + 1, 42, none⟩) (Nat.le_succ _) (.bool true)).setCell (p := ⟨w.heap.size + 1, 43, none⟩) (Nat.le_succ _) (.bool true)
        have HF4 := keep hF4
        have Hb4 := keep hb4
        clear hF4 hb4
        go_wp2
        go_ret
        rw [← HD.out]
        exact ⟨w.heap.size + 1, rfl, Nat.le_succ _, HF4.out, Hb4.out⟩
  · have Ht : Keep (decide (size ≤ 0) = false) := ⟨by simpa using hs⟩
    have HD := keep (show false = D by rw [← HD.out, Ht.out, Bool.false_and])
    clear hs
    refine rg_then (fun a' W => Below w2.heap.size w2 W ∧ a' = { tmps := #[.agg (headL sum size).toArray, .pointer (some ⟨w.heap.size, 0, none⟩), .pointer none, .pointer (some ⟨w.heap.size + 1, 0, none⟩), .agg (headL sum size).toArray, .agg (headL sum size ++ tailL (.slice none 0 0) 0 0 false false).toArray, .pointer (some ⟨w.heap.size + 1, 0, none⟩), .pointer (some ⟨w.heap.size, 37, none⟩), .int .i64 size, .bool false, .bool false, undef, undef, undef, undef, .bool false, undef, undef, undef, undef, undef, undef, undef], defers := [] }) ?_ ?_
    · refine rg_start (Below w2.heap.size w2) (by kernel_rfl) (Below.refl _ _).drew (fun h0 => ?_)
      refine rg_pure 0 (oi := { dst := some 7, op := Op.fieldAddr 33 (Operand.tmp 1) 3, type := 0, pos := "haversackref19.go:99", after := #[], guard := none }) (.pointer (some ⟨w.heap.size, 37, none⟩)) ({ tmps := #[.agg (headL sum size).toArray, .pointer (some ⟨w.heap.size, 0, none⟩), .pointer none, .pointer (some ⟨w.heap.size + 1, 0, none⟩), .agg (headL sum size).toArray, .agg (headL sum size ++ tailL (.slice none 0 0) 0 0 false false).toArray, .pointer (some ⟨w.heap.size + 1, 0, none⟩), .pointer (some ⟨w.heap.size, 37, none⟩), undef, undef, undef, undef, undef, undef, undef, undef, undef, undef, undef, undef, undef, undef, undef], defers := [] }) rfl (by kernel_rfl) (by kernel_rfl) (by kernel_rfl) (by kernel_rfl) (fun _ => by kernel_rfl) (by kernel_rfl) h0 ?_
      refine rg_read 1 (oi := { dst := some 8, op := Op.load 3 (Operand.tmp 7), type := 3, pos := "haversackref19.go:99", after := #[{ on := 0, ground := Ground.data }], guard := none }) (.int .i64 size) ({ tmps := #[.agg (headL sum size).toArray, .pointer (some ⟨w.heap.size, 0, none⟩), .pointer none, .pointer (some ⟨w.heap.size + 1, 0, none⟩), .agg (headL sum size).toArray, .agg (headL sum size ++ tailL (.slice none 0 0) 0 0 false false).toArray, .pointer (some ⟨w.heap.size + 1, 0, none⟩), .pointer (some ⟨w.heap.size, 37, none⟩), .int .i64 size, undef, undef, undef, undef, undef, undef, undef, undef, undef, undef, undef, undef, undef, undef], defers := [] }) rfl (by kernel_rfl) (by kernel_rfl) (by kernel_rfl) (by kernel_rfl) (fun W hW => ex_load1 _ _ 3 (.tmp 7) rfl ⟨w.heap.size, 37, none⟩ (by kernel_rfl) W (by kernel_rfl) _ ((hW.cell (p := ⟨w.heap.size, 37, none⟩) hlt).trans H37.out)) (by kernel_rfl) h0 ?_
      refine rg_pure 2 (oi := { dst := some 9, op := Op.binOp BinOp.leq 3 (Operand.tmp 8) (Operand.const (Value.int IntKind.i64 0)) 3, type := 4, pos := "haversackref19.go:99", after := #[{ on := 1, ground := Ground.data }], guard := none }) (.bool false) ({ tmps := #[.agg (headL sum size).toArray, .pointer (some ⟨w.heap.size, 0, none⟩), .pointer none, .pointer (some ⟨w.heap.size + 1, 0, none⟩), .agg (headL sum size).toArray, .agg (headL sum size ++ tailL (.slice none 0 0) 0 0 false false).toArray, .pointer (some ⟨w.heap.size + 1, 0, none⟩), .pointer (some ⟨w.heap.size, 37, none⟩), .int .i64 size, .bool false, undef, undef, undef, undef, undef, undef, undef, undef, undef, undef, undef, undef, undef], defers := [] }) rfl (by kernel_rfl) (by kernel_rfl) (by kernel_rfl) (by kernel_rfl) (fun _ => eq_bool (b := decide (size ≤ 0)) Ht.out (by kernel_rfl)) (by kernel_rfl) h0 ?_
      refine rg_pure 3 (oi := { dst := some 10, op := Op.move (Operand.tmp 9), type := 4, pos := "haversackref19.go:99", after := #[{ on := 2, ground := Ground.data }], guard := none }) (.bool false) ({ tmps := #[.agg (headL sum size).toArray, .pointer (some ⟨w.heap.size, 0, none⟩), .pointer none, .pointer (some ⟨w.heap.size + 1, 0, none⟩), .agg (headL sum size).toArray, .agg (headL sum size ++ tailL (.slice none 0 0) 0 0 false false).toArray, .pointer (some ⟨w.heap.size + 1, 0, none⟩), .pointer (some ⟨w.heap.size, 37, none⟩), .int .i64 size, .bool false, .bool false, undef, undef, undef, undef, undef, undef, undef, undef, undef, undef, undef, undef], defers := [] }) rfl (by kernel_rfl) (by kernel_rfl) (by kernel_rfl) (by kernel_rfl) (fun _ => by kernel_rfl) (by kernel_rfl) h0 ?_
      refine rg_idle 4 (oi := { dst := some 11, op := Op.call { callee := Callee.value (Operand.func 22), args := #[Operand.const (Value.slice none 0 0)], argTypes := #[67] }, type := 30, pos := "haversackref19.go:99", after := #[{ on := 3, ground := Ground.chain }, { on := 3, ground := Ground.guard }], guard := some (3, true) }) ({ tmps := #[.agg (headL sum size).toArray, .pointer (some ⟨w.heap.size, 0, none⟩), .pointer none, .pointer (some ⟨w.heap.size + 1, 0, none⟩), .agg (headL sum size).toArray, .agg (headL sum size ++ tailL (.slice none 0 0) 0 0 false false).toArray, .pointer (some ⟨w.heap.size + 1, 0, none⟩), .pointer (some ⟨w.heap.size, 37, none⟩), .int .i64 size, .bool false, .bool false, undef, undef, undef, undef, undef, undef, undef, undef, undef, undef, undef, undef], defers := [] }) rfl (by kernel_rfl) (by kernel_rfl) (by kernel_rfl) (by kernel_rfl) (by kernel_rfl) h0 ?_
      refine rg_idle 5 (oi := { dst := some 12, op := Op.fieldAddr 33 (Operand.tmp 1) 2, type := 0, pos := "haversackref19.go:99", after := #[{ on := 3, ground := Ground.guard }], guard := some (3, true) }) ({ tmps := #[.agg (headL sum size).toArray, .pointer (some ⟨w.heap.size, 0, none⟩), .pointer none, .pointer (some ⟨w.heap.size + 1, 0, none⟩), .agg (headL sum size).toArray, .agg (headL sum size ++ tailL (.slice none 0 0) 0 0 false false).toArray, .pointer (some ⟨w.heap.size + 1, 0, none⟩), .pointer (some ⟨w.heap.size, 37, none⟩), .int .i64 size, .bool false, .bool false, undef, undef, undef, undef, undef, undef, undef, undef, undef, undef, undef, undef], defers := [] }) rfl (by kernel_rfl) (by kernel_rfl) (by kernel_rfl) (by kernel_rfl) (by kernel_rfl) h0 ?_
      refine rg_idle 6 (oi := { dst := some 13, op := Op.load 30 (Operand.tmp 12), type := 30, pos := "haversackref19.go:99", after := #[{ on := 5, ground := Ground.data }, { on := 3, ground := Ground.guard }], guard := some (3, true) }) ({ tmps := #[.agg (headL sum size).toArray, .pointer (some ⟨w.heap.size, 0, none⟩), .pointer none, .pointer (some ⟨w.heap.size + 1, 0, none⟩), .agg (headL sum size).toArray, .agg (headL sum size ++ tailL (.slice none 0 0) 0 0 false false).toArray, .pointer (some ⟨w.heap.size + 1, 0, none⟩), .pointer (some ⟨w.heap.size, 37, none⟩), .int .i64 size, .bool false, .bool false, undef, undef, undef, undef, undef, undef, undef, undef, undef, undef, undef, undef], defers := [] }) rfl (by kernel_rfl) (by kernel_rfl) (by kernel_rfl) (by kernel_rfl) (by kernel_rfl) h0 ?_
      refine rg_idle 7 (oi := { dst := some 14, op := Op.binOp BinOp.eql 30 (Operand.tmp 11) (Operand.tmp 13) 30, type := 4, pos := "haversackref19.go:99", after := #[{ on := 4, ground := Ground.data }, { on := 6, ground := Ground.data }, { on := 3, ground := Ground.guard }], guard := some (3, true) }) ({ tmps := #[.agg (headL sum size).toArray, .pointer (some ⟨w.heap.size, 0, none⟩), .pointer none, .pointer (some ⟨w.heap.size + 1, 0, none⟩), .agg (headL sum size).toArray, .agg (headL sum size ++ tailL (.slice none 0 0) 0 0 false false).toArray, .pointer (some ⟨w.heap.size + 1, 0, none⟩), .pointer (some ⟨w.heap.size, 37, none⟩), .int .i64 size, .bool false, .bool false, undef, undef, undef, undef, undef, undef, undef, undef, undef, undef, undef, undef], defers := [] }) rfl (by kernel_rfl) (by kernel_rfl) (by kernel_rfl) (by kernel_rfl) (by kernel_rfl) h0 ?_
      refine rg_pure 8 (oi := { dst := some 15, op := Op.pick (Operand.tmp 10) (Operand.tmp 14) (Operand.const (Value.bool false)), type := 4, pos := "haversackref19.go:99", after := #[{ on := 3, ground := Ground.data }, { on := 7, ground := Ground.data }], guard := none }) (.bool false) ({ tmps := #[.agg (headL sum size).toArray, .pointer (some ⟨w.heap.size, 0, none⟩), .pointer none, .pointer (some ⟨w.heap.size + 1, 0, none⟩), .agg (headL sum size).toArray, .agg (headL sum size ++ tailL (.slice none 0 0) 0 0 false false).toArray, .pointer (some ⟨w.heap.size + 1, 0, none⟩), .pointer (some ⟨w.heap.size, 37, none⟩), .int .i64 size, .bool false, .bool false, undef, undef, undef, undef, .bool false, undef, undef, undef, undef, undef, undef, undef], defers := [] }) rfl (by kernel_rfl) (by kernel_rfl) (by kernel_rfl) (by kernel_rfl) (fun _ => by kernel_rfl) (by kernel_rfl) h0 ?_
      refine rg_done (by kernel_rfl) ⟨rfl, ?_⟩ _
      exact ⟨h0, rfl⟩
    · rintro a' W ⟨hB, rfl⟩
      have hF3 := HF.out.below hB HF.out.lt
      have hb3 := Hb.out.trans (hB.mono Hb.out.size)
      have HF3 := keep hF3
      have Hb3 := keep hb3
      clear hF3 hb3 hB
      go_wp2
      go_ret
      rw [← HD.out]
      exact ⟨w.heap.size + 1, rfl, Nat.le_succ _, HF3.out, Hb3.out⟩
--]REG
end Go.Proofs.Ytmfgcdfemhaieaa
