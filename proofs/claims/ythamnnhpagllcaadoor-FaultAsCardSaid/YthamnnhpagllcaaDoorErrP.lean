/- errors.As at a fault's variable, from the top; the law's own 'found'; a fault unwrapped. -/
import Derived.Test.YthamnnhpagllcaaDoorErrT
namespace Go.Proofs.YthamnnhpagllcaaDoor
open Go.RowKit Go.Extern.Stop Go.Stop Go.Extern

set_option maxRecDepth 100000 in
set_option maxHeartbeats 4000000 in
theorem errAsF (T0 : TypeId) (x0 : Value) (r : Bool) (u : Value) (w : World) (tb : Nat) (old : Value) (henv : Env w) (ht : w.heap[tb]? = some (.cells #[old] 39 (0, 0)))
    (hR : ∀ (w2 : World) (vb : Nat), w2.heap[tb]? = some (.cells #[old] 39 (0, 0)) → w2.heap[vb]? = some (.cells #[.pointer (some ⟨tb, 0, none⟩)] 57 (0, 0)) → Calls Tryd.prog 33 #[.iface T0 x0, .iface 57 (.pointer (some ⟨tb, 0, none⟩)), .agg #[.pointer (some ⟨5, 57, none⟩), .pointer (some ⟨vb, 0, none⟩), .int .u64 150], .iface 79 (.agg #[.pointer (some ⟨5, 39, none⟩)])] w2 (AsF r tb u w2)) :
    Calls Tryd.prog 24 #[.iface T0 x0, .iface 57 (.pointer (some ⟨tb, 0, none⟩))] w (AsF r tb u w) := by
  have h1 : Below w.heap.size w (w.alloc (.cells #[.pointer (some ⟨tb, 0, none⟩)] 57)) := (Below.refl _ _).alloc (Nat.le_refl _) _
  have hz1 : (w.alloc (.cells #[.pointer (some ⟨tb, 0, none⟩)] 57)).heap.size = w.heap.size + 1 := by simp
  have h2 : Below w.heap.size w ((w.alloc (.cells #[.pointer (some ⟨tb, 0, none⟩)] 57)).alloc (.cells #[.pointer (some ⟨5, 57, none⟩), .pointer (some ⟨w.heap.size, 0, none⟩), .int .u64 150] 71)) := h1.alloc (by rw [hz1]; omega) _
  have hv2 : ((w.alloc (.cells #[.pointer (some ⟨tb, 0, none⟩)] 57)).alloc (.cells #[.pointer (some ⟨5, 57, none⟩), .pointer (some ⟨w.heap.size, 0, none⟩), .int .u64 150] 71)).heap[w.heap.size]? = some (.cells #[.pointer (some ⟨tb, 0, none⟩)] 57 (0, 0)) := by
    rw [Below.heap_alloc _ _ _ (by rw [hz1]; omega)]
    exact heap_alloc_new w _
  have ht2 := (h2.block _ (row_lt ht)).trans ht
  have hrec := hR _ w.heap.size ht2 hv2
  have cE := (h2.cell (p := ⟨0, 0, none⟩) (World.block_lt_of_cell? w _ henv.et)).trans henv.et
  have nI := isNilPF ⟨w.heap.size, 0, none⟩ ⟨tb, 0, none⟩ _ (cell_of_row _ w.heap.size 0 _ _ _ hv2)
  have hg2 := below_grownBy h2 (some tb)
  have hnil := ifaceNil T0 x0
  have Hrec := keep hrec
  have Hg2 := keep hg2
  clear h1 hz1 h2 hv2 ht2 hrec hg2 henv ht hR
  have xV := ext_ValueOf
  have xT := ext_Type
  have xN := ext_IsNil
  have xK := ext_Kind
  have xE := ext_TElem
  have xI := ext_Impl
  have f6 := valueOfPF ⟨tb, 0, none⟩
  have f7 := typePF
  have mK := methodKind
  have mE := methodElem
  have mI := methodImplements
  have k1 := kindPF
  have k2 := kindF
  have e1 := elemPF
  have i1 := implF
  go_enter Tryd.func24, Tryd.ntmps24
  go_wp2_with fail
  refine Hrec.out.mono ?_
  rintro e w3 ⟨rfl, h3, hg3⟩
  have hp : AsF r tb u w (.returned (.bool r)) w3 := ⟨rfl, h3, World.grownBy.trans Hg2.out hg3⟩
  have Hp := keep hp
  clear hp h3 hg3
  go_wp2_with fail
  go_ret
  exact Hp.out
theorem asF_below {r : Bool} {w : World} {u : Value} {e : Ending} {w' : World} {o : Obj} (h : AsF r w.heap.size u (w.alloc o) e w') : Below w.heap.size w w' :=
  ((Below.refl _ _).alloc (Nat.le_refl _) o).grown h.2.2 (by simp) (fun k hk => by cases hk; exact Nat.le_refl _)
set_option maxRecDepth 100000 in
set_option maxHeartbeats 2000000 in
theorem found_hit (p : Addr) (w : World) (he : Env w) (hN : 5 ≤ w.heap.size) : Calls Tryd.prog 16 #[.iface 39 (.pointer (some p))] w (fun e w' => e = .returned (.tuple #[.pointer (some p), .bool true]) ∧ Below w.heap.size w w') := by
  have hal : Below w.heap.size w (w.alloc (.cells #[.pointer none] 39)) := (Below.refl _ _).alloc (Nat.le_refl _) _
  have hA := errAsF 39 (.pointer (some p)) true (.pointer (some p)) (w.alloc (.cells #[.pointer none] 39)) w.heap.size (.pointer none) (he.below hal hN) (heap_alloc_new w _)
    (fun w2 vb h1 h2 => asF_hit p w2 w.heap.size vb _ h1 h2)
  have HA := keep hA
  clear hA hal he
  go_enter Tryd.func16, Tryd.ntmps16
  go_wp2_with fail
  refine HA.out.mono ?_
  intro e w2 h
  have hb := asF_below h
  obtain ⟨rfl, h2, _⟩ := h
  have hc := cell_of_row _ w.heap.size 0 _ _ _ h2
  have hlt := row_lt h2
  have Hb := keep hb
  clear hb h2 HA
  go_wp2_with fail
  refine rg_then (fun a' W => Below w2.heap.size w2 W ∧ a' = { tmps := #[.iface 39 (.pointer (some p)), undef, .pointer (some p), .bool true, .pointer (some ⟨w.heap.size, 0, none⟩), .bool true, .iface 39 (.pointer (some p)), .iface 57 (.pointer (some ⟨w.heap.size, 0, none⟩)), .bool true, .pointer (some p), .bool true, .bool true, .pointer (some p), .bool true, .bool true], defers := [] }) ?_ ?_
  · refine rg_start (Below w2.heap.size w2) (by kernel_rfl) (Below.refl _ _).drew (fun h0 => ?_)
    refine rg_read 0 (oi := { dst := some 9, op := Op.load 39 (Operand.tmp 4), type := 39, pos := "ask.go:14", after := #[], guard := none }) (.pointer (some p)) ({ tmps := #[.iface 39 (.pointer (some p)), undef, .pointer none, .bool false, .pointer (some ⟨w.heap.size, 0, none⟩), .bool true, .iface 39 (.pointer (some p)), .iface 57 (.pointer (some ⟨w.heap.size, 0, none⟩)), .bool true, .pointer (some p), undef, undef, undef, undef, undef], defers := [] }) rfl (by kernel_rfl) (by kernel_rfl) (by kernel_rfl) (by kernel_rfl) (fun W hW => ex_load1 _ _ 39 (.tmp 4) rfl ⟨w.heap.size, 0, none⟩ (by kernel_rfl) W (by kernel_rfl) _ ((hW.cell (p := ⟨w.heap.size, 0, none⟩) hlt).trans hc)) (by kernel_rfl) h0 ?_
    refine rg_pure 1 (oi := { dst := some 10, op := Op.move (Operand.tmp 5), type := 4, pos := "ask.go:14", after := #[], guard := none }) (.bool true) ({ tmps := #[.iface 39 (.pointer (some p)), undef, .pointer none, .bool false, .pointer (some ⟨w.heap.size, 0, none⟩), .bool true, .iface 39 (.pointer (some p)), .iface 57 (.pointer (some ⟨w.heap.size, 0, none⟩)), .bool true, .pointer (some p), .bool true, undef, undef, undef, undef], defers := [] }) rfl (by kernel_rfl) (by kernel_rfl) (by kernel_rfl) (by kernel_rfl) (fun _ => by kernel_rfl) (by kernel_rfl) h0 ?_
    refine rg_pure 2 (oi := { dst := some 11, op := Op.move (Operand.tmp 10), type := 4, pos := "ask.go:14", after := #[{ on := 1, ground := Ground.data }], guard := none }) (.bool true) ({ tmps := #[.iface 39 (.pointer (some p)), undef, .pointer none, .bool false, .pointer (some ⟨w.heap.size, 0, none⟩), .bool true, .iface 39 (.pointer (some p)), .iface 57 (.pointer (some ⟨w.heap.size, 0, none⟩)), .bool true, .pointer (some p), .bool true, .bool true, undef, undef, undef], defers := [] }) rfl (by kernel_rfl) (by kernel_rfl) (by kernel_rfl) (by kernel_rfl) (fun _ => by kernel_rfl) (by kernel_rfl) h0 ?_
    refine rg_read 3 (oi := { dst := some 12, op := Op.load 39 (Operand.tmp 4), type := 39, pos := "ask.go:14", after := #[{ on := 2, ground := Ground.guard }, { on := 6, ground := Ground.gcOnly Departure.lateStores }], guard := some (2, true) }) (.pointer (some p)) ({ tmps := #[.iface 39 (.pointer (some p)), undef, .pointer none, .bool false, .pointer (some ⟨w.heap.size, 0, none⟩), .bool true, .iface 39 (.pointer (some p)), .iface 57 (.pointer (some ⟨w.heap.size, 0, none⟩)), .bool true, .pointer (some p), .bool true, .bool true, .pointer (some p), undef, undef], defers := [] }) rfl (by kernel_rfl) (by kernel_rfl) (by kernel_rfl) (by kernel_rfl) (fun W hW => ex_load1 _ _ 39 (.tmp 4) rfl ⟨w.heap.size, 0, none⟩ (by kernel_rfl) W (by kernel_rfl) _ ((hW.cell (p := ⟨w.heap.size, 0, none⟩) hlt).trans hc)) (by kernel_rfl) h0 ?_
    refine rg_pure 4 (oi := { dst := some 13, op := Op.binOp BinOp.neq 39 (Operand.tmp 12) (Operand.const (Value.pointer none)) 39, type := 4, pos := "ask.go:14", after := #[{ on := 3, ground := Ground.data }, { on := 2, ground := Ground.guard }, { on := 6, ground := Ground.gcOnly Departure.lateStores }], guard := some (2, true) }) (.bool true) ({ tmps := #[.iface 39 (.pointer (some p)), undef, .pointer none, .bool false, .pointer (some ⟨w.heap.size, 0, none⟩), .bool true, .iface 39 (.pointer (some p)), .iface 57 (.pointer (some ⟨w.heap.size, 0, none⟩)), .bool true, .pointer (some p), .bool true, .bool true, .pointer (some p), .bool true, undef], defers := [] }) rfl (by kernel_rfl) (by kernel_rfl) (by kernel_rfl) (by kernel_rfl) (fun _ => by kernel_rfl) (by kernel_rfl) h0 ?_
    refine rg_pure 5 (oi := { dst := some 14, op := Op.pick (Operand.tmp 11) (Operand.tmp 13) (Operand.const (Value.bool false)), type := 4, pos := "ask.go:14", after := #[{ on := 2, ground := Ground.data }, { on := 4, ground := Ground.data }, { on := 6, ground := Ground.gcOnly Departure.lateStores }], guard := none }) (.bool true) ({ tmps := #[.iface 39 (.pointer (some p)), undef, .pointer none, .bool false, .pointer (some ⟨w.heap.size, 0, none⟩), .bool true, .iface 39 (.pointer (some p)), .iface 57 (.pointer (some ⟨w.heap.size, 0, none⟩)), .bool true, .pointer (some p), .bool true, .bool true, .pointer (some p), .bool true, .bool true], defers := [] }) rfl (by kernel_rfl) (by kernel_rfl) (by kernel_rfl) (by kernel_rfl) (fun _ => by kernel_rfl) (by kernel_rfl) h0 ?_
    refine rg_pure 6 (oi := { dst := some 2, op := Op.assign (Operand.tmp 9), type := 39, pos := "ask.go:14", after := #[{ on := 0, ground := Ground.data }, { on := 2, ground := Ground.chain }, { on := 0, ground := Ground.phase }, { on := 1, ground := Ground.textOnly Departure.lateStores }, { on := 2, ground := Ground.textOnly Departure.lateStores }, { on := 3, ground := Ground.textOnly Departure.lateStores }, { on := 4, ground := Ground.textOnly Departure.lateStores }, { on := 5, ground := Ground.textOnly Departure.lateStores }], guard := none }) (.pointer (some p)) ({ tmps := #[.iface 39 (.pointer (some p)), undef, .pointer (some p), .bool false, .pointer (some ⟨w.heap.size, 0, none⟩), .bool true, .iface 39 (.pointer (some p)), .iface 57 (.pointer (some ⟨w.heap.size, 0, none⟩)), .bool true, .pointer (some p), .bool true, .bool true, .pointer (some p), .bool true, .bool true], defers := [] }) rfl (by kernel_rfl) (by kernel_rfl) (by kernel_rfl) (by kernel_rfl) (fun _ => by kernel_rfl) (by kernel_rfl) h0 ?_
    refine rg_pure 7 (oi := { dst := some 3, op := Op.assign (Operand.tmp 14), type := 4, pos := "ask.go:14", after := #[{ on := 5, ground := Ground.data }, { on := 6, ground := Ground.chain }, { on := 0, ground := Ground.phase }, { on := 1, ground := Ground.phase }, { on := 2, ground := Ground.phase }, { on := 3, ground := Ground.phase }, { on := 4, ground := Ground.phase }, { on := 5, ground := Ground.phase }, { on := 6, ground := Ground.phase }], guard := none }) (.bool true) ({ tmps := #[.iface 39 (.pointer (some p)), undef, .pointer (some p), .bool true, .pointer (some ⟨w.heap.size, 0, none⟩), .bool true, .iface 39 (.pointer (some p)), .iface 57 (.pointer (some ⟨w.heap.size, 0, none⟩)), .bool true, .pointer (some p), .bool true, .bool true, .pointer (some p), .bool true, .bool true], defers := [] }) rfl (by kernel_rfl) (by kernel_rfl) (by kernel_rfl) (by kernel_rfl) (fun _ => by kernel_rfl) (by kernel_rfl) h0 ?_
    refine rg_done (by kernel_rfl) ⟨rfl, ?_⟩ _
    exact ⟨h0, rfl⟩
  rintro a' w3 ⟨hB3, rfl⟩
  have hp := Hb.out.trans (hB3.mono Hb.out.size)
  have Hp := keep hp
  clear hB3 hp
  go_wp2_with fail
  go_ret2
  exact ⟨rfl, Hp.out⟩
set_option maxRecDepth 100000 in
set_option maxHeartbeats 2000000 in
theorem found_miss (n : Int) (w : World) (he : Env w) (hN : 5 ≤ w.heap.size) : Calls Tryd.prog 16 #[.iface 25 (.int .i64 n)] w (fun e w' => e = .returned (.tuple #[.pointer none, .bool false]) ∧ Below w.heap.size w w') := by
  have hal : Below w.heap.size w (w.alloc (.cells #[.pointer none] 39)) := (Below.refl _ _).alloc (Nat.le_refl _) _
  have hA := errAsF 25 (.int .i64 n) false (.pointer none) (w.alloc (.cells #[.pointer none] 39)) w.heap.size (.pointer none) (he.below hal hN) (heap_alloc_new w _)
    (fun w2 vb h1 _ => asF_miss n w2 w.heap.size vb _ h1)
  have HA := keep hA
  clear hA hal he
  go_enter Tryd.func16, Tryd.ntmps16
  go_wp2_with fail
  refine HA.out.mono ?_
  intro e w2 h
  have hb := asF_below h
  obtain ⟨rfl, h2, _⟩ := h
  have hc := cell_of_row _ w.heap.size 0 _ _ _ h2
  have hlt := row_lt h2
  have Hb := keep hb
  clear hb h2 HA
  go_wp2_with fail
  refine rg_then (fun a' W => Below w2.heap.size w2 W ∧ a' = { tmps := #[.iface 25 (.int .i64 n), undef, .pointer none, .bool false, .pointer (some ⟨w.heap.size, 0, none⟩), .bool false, .iface 25 (.int .i64 n), .iface 57 (.pointer (some ⟨w.heap.size, 0, none⟩)), .bool false, .pointer none, .bool false, .bool false, undef, undef, .bool false], defers := [] }) ?_ ?_
  · refine rg_start (Below w2.heap.size w2) (by kernel_rfl) (Below.refl _ _).drew (fun h0 => ?_)
    refine rg_read 0 (oi := { dst := some 9, op := Op.load 39 (Operand.tmp 4), type := 39, pos := "ask.go:14", after := #[], guard := none }) (.pointer none) ({ tmps := #[.iface 25 (.int .i64 n), undef, .pointer none, .bool false, .pointer (some ⟨w.heap.size, 0, none⟩), .bool false, .iface 25 (.int .i64 n), .iface 57 (.pointer (some ⟨w.heap.size, 0, none⟩)), .bool false, .pointer none, undef, undef, undef, undef, undef], defers := [] }) rfl (by kernel_rfl) (by kernel_rfl) (by kernel_rfl) (by kernel_rfl) (fun W hW => ex_load1 _ _ 39 (.tmp 4) rfl ⟨w.heap.size, 0, none⟩ (by kernel_rfl) W (by kernel_rfl) _ ((hW.cell (p := ⟨w.heap.size, 0, none⟩) hlt).trans hc)) (by kernel_rfl) h0 ?_
    refine rg_pure 1 (oi := { dst := some 10, op := Op.move (Operand.tmp 5), type := 4, pos := "ask.go:14", after := #[], guard := none }) (.bool false) ({ tmps := #[.iface 25 (.int .i64 n), undef, .pointer none, .bool false, .pointer (some ⟨w.heap.size, 0, none⟩), .bool false, .iface 25 (.int .i64 n), .iface 57 (.pointer (some ⟨w.heap.size, 0, none⟩)), .bool false, .pointer none, .bool false, undef, undef, undef, undef], defers := [] }) rfl (by kernel_rfl) (by kernel_rfl) (by kernel_rfl) (by kernel_rfl) (fun _ => by kernel_rfl) (by kernel_rfl) h0 ?_
    refine rg_pure 2 (oi := { dst := some 11, op := Op.move (Operand.tmp 10), type := 4, pos := "ask.go:14", after := #[{ on := 1, ground := Ground.data }], guard := none }) (.bool false) ({ tmps := #[.iface 25 (.int .i64 n), undef, .pointer none, .bool false, .pointer (some ⟨w.heap.size, 0, none⟩), .bool false, .iface 25 (.int .i64 n), .iface 57 (.pointer (some ⟨w.heap.size, 0, none⟩)), .bool false, .pointer none, .bool false, .bool false, undef, undef, undef], defers := [] }) rfl (by kernel_rfl) (by kernel_rfl) (by kernel_rfl) (by kernel_rfl) (fun _ => by kernel_rfl) (by kernel_rfl) h0 ?_
    refine rg_idle 3 (oi := { dst := some 12, op := Op.load 39 (Operand.tmp 4), type := 39, pos := "ask.go:14", after := #[{ on := 2, ground := Ground.guard }, { on := 6, ground := Ground.gcOnly Departure.lateStores }], guard := some (2, true) }) ({ tmps := #[.iface 25 (.int .i64 n), undef, .pointer none, .bool false, .pointer (some ⟨w.heap.size, 0, none⟩), .bool false, .iface 25 (.int .i64 n), .iface 57 (.pointer (some ⟨w.heap.size, 0, none⟩)), .bool false, .pointer none, .bool false, .bool false, undef, undef, undef], defers := [] }) rfl (by kernel_rfl) (by kernel_rfl) (by kernel_rfl) (by kernel_rfl) (by kernel_rfl) h0 ?_
    refine rg_idle 4 (oi := { dst := some 13, op := Op.binOp BinOp.neq 39 (Operand.tmp 12) (Operand.const (Value.pointer none)) 39, type := 4, pos := "ask.go:14", after := #[{ on := 3, ground := Ground.data }, { on := 2, ground := Ground.guard }, { on := 6, ground := Ground.gcOnly Departure.lateStores }], guard := some (2, true) }) ({ tmps := #[.iface 25 (.int .i64 n), undef, .pointer none, .bool false, .pointer (some ⟨w.heap.size, 0, none⟩), .bool false, .iface 25 (.int .i64 n), .iface 57 (.pointer (some ⟨w.heap.size, 0, none⟩)), .bool false, .pointer none, .bool false, .bool false, undef, undef, undef], defers := [] }) rfl (by kernel_rfl) (by kernel_rfl) (by kernel_rfl) (by kernel_rfl) (by kernel_rfl) h0 ?_
    refine rg_pure 5 (oi := { dst := some 14, op := Op.pick (Operand.tmp 11) (Operand.tmp 13) (Operand.const (Value.bool false)), type := 4, pos := "ask.go:14", after := #[{ on := 2, ground := Ground.data }, { on := 4, ground := Ground.data }, { on := 6, ground := Ground.gcOnly Departure.lateStores }], guard := none }) (.bool false) ({ tmps := #[.iface 25 (.int .i64 n), undef, .pointer none, .bool false, .pointer (some ⟨w.heap.size, 0, none⟩), .bool false, .iface 25 (.int .i64 n), .iface 57 (.pointer (some ⟨w.heap.size, 0, none⟩)), .bool false, .pointer none, .bool false, .bool false, undef, undef, .bool false], defers := [] }) rfl (by kernel_rfl) (by kernel_rfl) (by kernel_rfl) (by kernel_rfl) (fun _ => by kernel_rfl) (by kernel_rfl) h0 ?_
    refine rg_pure 6 (oi := { dst := some 2, op := Op.assign (Operand.tmp 9), type := 39, pos := "ask.go:14", after := #[{ on := 0, ground := Ground.data }, { on := 2, ground := Ground.chain }, { on := 0, ground := Ground.phase }, { on := 1, ground := Ground.textOnly Departure.lateStores }, { on := 2, ground := Ground.textOnly Departure.lateStores }, { on := 3, ground := Ground.textOnly Departure.lateStores }, { on := 4, ground := Ground.textOnly Departure.lateStores }, { on := 5, ground := Ground.textOnly Departure.lateStores }], guard := none }) (.pointer none) ({ tmps := #[.iface 25 (.int .i64 n), undef, .pointer none, .bool false, .pointer (some ⟨w.heap.size, 0, none⟩), .bool false, .iface 25 (.int .i64 n), .iface 57 (.pointer (some ⟨w.heap.size, 0, none⟩)), .bool false, .pointer none, .bool false, .bool false, undef, undef, .bool false], defers := [] }) rfl (by kernel_rfl) (by kernel_rfl) (by kernel_rfl) (by kernel_rfl) (fun _ => by kernel_rfl) (by kernel_rfl) h0 ?_
    refine rg_pure 7 (oi := { dst := some 3, op := Op.assign (Operand.tmp 14), type := 4, pos := "ask.go:14", after := #[{ on := 5, ground := Ground.data }, { on := 6, ground := Ground.chain }, { on := 0, ground := Ground.phase }, { on := 1, ground := Ground.phase }, { on := 2, ground := Ground.phase }, { on := 3, ground := Ground.phase }, { on := 4, ground := Ground.phase }, { on := 5, ground := Ground.phase }, { on := 6, ground := Ground.phase }], guard := none }) (.bool false) ({ tmps := #[.iface 25 (.int .i64 n), undef, .pointer none, .bool false, .pointer (some ⟨w.heap.size, 0, none⟩), .bool false, .iface 25 (.int .i64 n), .iface 57 (.pointer (some ⟨w.heap.size, 0, none⟩)), .bool false, .pointer none, .bool false, .bool false, undef, undef, .bool false], defers := [] }) rfl (by kernel_rfl) (by kernel_rfl) (by kernel_rfl) (by kernel_rfl) (fun _ => by kernel_rfl) (by kernel_rfl) h0 ?_
    refine rg_done (by kernel_rfl) ⟨rfl, ?_⟩ _
    exact ⟨h0, rfl⟩
  rintro a' w3 ⟨hB3, rfl⟩
  have hp := Hb.out.trans (hB3.mono Hb.out.size)
  have Hp := keep hp
  clear hB3 hp
  go_wp2_with fail
  go_ret2
  exact ⟨rfl, Hp.out⟩
end Go.Proofs.YthamnnhpagllcaaDoor
