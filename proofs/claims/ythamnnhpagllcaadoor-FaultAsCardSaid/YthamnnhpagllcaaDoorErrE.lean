/- An error's text. -/
import Derived.Test.YthamnnhpagllcaaDoorErrD
namespace Go.Proofs.YthamnnhpagllcaaDoor
open Go.RowKit Go.Extern.Stop Go.Stop Go.Extern

theorem ifaceNeq (T : TypeId) (x : Value) (w : World) : (binOp .neq 27 (.iface T x) .nilIface).run Tryd.prog w = .ok (.bool true) w := by
  have h : ∀ d : Nat, (Op.equalIn (d + 1) 27 (.iface T x) .nilIface).run Tryd.prog w = .ok false w := fun d => by simp [Op.equalIn, run_underlying Tryd.underlying27]
  simp only [binOp]
  simp [Op.equal, Op.maxDepth, h 9999]
set_option maxRecDepth 100000 in
set_option maxHeartbeats 2000000 in
theorem ferror_any (b : Nat) (op nm : ByteArray) (T0 : TypeId) (x0 : Value) (l : List UInt8) (w : World) (hr : w.heap[b]? = some (.cells #[.string op, .string nm, .iface T0 x0] 43 (0, 0))) (hl : op.data.toList.length + nm.data.toList.length + l.length ≤ 2000000)
    (h : Calls Tryd.prog 14 #[.iface T0 x0] w (StrPost l w)) :
    Calls Tryd.prog 27 #[.pointer (some ⟨b, 0, none⟩)] w (StrPost (op.data.toList ++ [32] ++ nm.data.toList ++ [58, 32] ++ l) w) := by
  have c2 : w.cell? ⟨b, 2, none⟩ = some (.iface T0 x0) := cell_of_row _ _ 2 _ _ _ hr
  have hne := ifaceNeq T0 x0
  have hlt0 := row_lt hr
  have H := keep h
  have Hr := keep hr
  clear h hr
  go_enter Tryd.func27, Tryd.ntmps27
  go_wp2_with fail
  refine H.out.mono ?_
  rintro e w1 ⟨rfl, hB⟩
  have hr1 := (hB.block _ hlt0).trans Hr.out
  have hlt := row_lt hr1
  have Hc0 := keep (cell_of_row _ _ 0 _ _ _ hr1)
  have Hc1 := keep (cell_of_row _ _ 1 _ _ _ hr1)
  obtain ⟨x, hx⟩ : ∃ x, Value.iface T0 x0 = x := ⟨_, rfl⟩
  rw [hx]
  clear hr1 hx c2 hne H
  go_wp2_with fail
  refine rg_then (fun a' W => Below w1.heap.size w1 W ∧ a' = { tmps := #[.pointer (some ⟨b, 0, none⟩), undef, .string ⟨(op.data.toList ++ [32] ++ nm.data.toList ++ [58, 32] ++ l).toArray⟩, .string ⟨l.toArray⟩, .pointer (some ⟨b, 0, none⟩), .pointer (some ⟨b, 0, none⟩), .pointer (some ⟨b, 2, none⟩), x, .bool true, .pointer (some ⟨b, 0, none⟩), .pointer (some ⟨b, 0, none⟩), .pointer (some ⟨b, 2, none⟩), x, .string ⟨l.toArray⟩, .pointer (some ⟨b, 0, none⟩), .pointer (some ⟨b, 0, none⟩), .pointer (some ⟨b, 0, none⟩), .string op, .string ⟨(op.data.toList ++ [32]).toArray⟩, .pointer (some ⟨b, 0, none⟩), .pointer (some ⟨b, 0, none⟩), .pointer (some ⟨b, 1, none⟩), .string nm, .string ⟨(op.data.toList ++ [32] ++ nm.data.toList).toArray⟩, .string ⟨(op.data.toList ++ [32] ++ nm.data.toList ++ [58, 32]).toArray⟩, .string ⟨l.toArray⟩, .string ⟨(op.data.toList ++ [32] ++ nm.data.toList ++ [58, 32] ++ l).toArray⟩], defers := [] }) ?_ ?_
  · refine rg_start (Below w1.heap.size w1) (by kernel_rfl) (Below.refl _ _).drew (fun h0 => ?_)
    refine rg_pure 0 (oi := { dst := some 14, op := Op.move (Operand.tmp 0), type := 39, pos := "fault.go:24", after := #[], guard := none }) (.pointer (some ⟨b, 0, none⟩)) ({ tmps := #[.pointer (some ⟨b, 0, none⟩), undef, .string ⟨#[]⟩, .string ⟨l.toArray⟩, .pointer (some ⟨b, 0, none⟩), .pointer (some ⟨b, 0, none⟩), .pointer (some ⟨b, 2, none⟩), x, .bool true, .pointer (some ⟨b, 0, none⟩), .pointer (some ⟨b, 0, none⟩), .pointer (some ⟨b, 2, none⟩), x, .string ⟨l.toArray⟩, .pointer (some ⟨b, 0, none⟩), undef, undef, undef, undef, undef, undef, undef, undef, undef, undef, undef, undef], defers := [] }) rfl (by kernel_rfl) (by kernel_rfl) (by kernel_rfl) (by kernel_rfl) (fun _ => by kernel_rfl) (by kernel_rfl) h0 ?_
    refine rg_pure 1 (oi := { dst := some 15, op := Op.nilCheck (Operand.tmp 14), type := 0, pos := "fault.go:24", after := #[{ on := 0, ground := Ground.data }], guard := none }) (.pointer (some ⟨b, 0, none⟩)) ({ tmps := #[.pointer (some ⟨b, 0, none⟩), undef, .string ⟨#[]⟩, .string ⟨l.toArray⟩, .pointer (some ⟨b, 0, none⟩), .pointer (some ⟨b, 0, none⟩), .pointer (some ⟨b, 2, none⟩), x, .bool true, .pointer (some ⟨b, 0, none⟩), .pointer (some ⟨b, 0, none⟩), .pointer (some ⟨b, 2, none⟩), x, .string ⟨l.toArray⟩, .pointer (some ⟨b, 0, none⟩), .pointer (some ⟨b, 0, none⟩), undef, undef, undef, undef, undef, undef, undef, undef, undef, undef, undef], defers := [] }) rfl (by kernel_rfl) (by kernel_rfl) (by kernel_rfl) (by kernel_rfl) (fun _ => by kernel_rfl) (by kernel_rfl) h0 ?_
    refine rg_pure 2 (oi := { dst := some 16, op := Op.fieldAddr 43 (Operand.tmp 15) 0, type := 0, pos := "fault.go:24", after := #[{ on := 1, ground := Ground.data }], guard := none }) (.pointer (some ⟨b, 0, none⟩)) ({ tmps := #[.pointer (some ⟨b, 0, none⟩), undef, .string ⟨#[]⟩, .string ⟨l.toArray⟩, .pointer (some ⟨b, 0, none⟩), .pointer (some ⟨b, 0, none⟩), .pointer (some ⟨b, 2, none⟩), x, .bool true, .pointer (some ⟨b, 0, none⟩), .pointer (some ⟨b, 0, none⟩), .pointer (some ⟨b, 2, none⟩), x, .string ⟨l.toArray⟩, .pointer (some ⟨b, 0, none⟩), .pointer (some ⟨b, 0, none⟩), .pointer (some ⟨b, 0, none⟩), undef, undef, undef, undef, undef, undef, undef, undef, undef, undef], defers := [] }) rfl (by kernel_rfl) (by kernel_rfl) (by kernel_rfl) (by kernel_rfl) (fun _ => by kernel_rfl) (by kernel_rfl) h0 ?_
    refine rg_read 3 (oi := { dst := some 17, op := Op.load 9 (Operand.tmp 16), type := 9, pos := "fault.go:24", after := #[{ on := 2, ground := Ground.data }], guard := none }) (.string op) ({ tmps := #[.pointer (some ⟨b, 0, none⟩), undef, .string ⟨#[]⟩, .string ⟨l.toArray⟩, .pointer (some ⟨b, 0, none⟩), .pointer (some ⟨b, 0, none⟩), .pointer (some ⟨b, 2, none⟩), x, .bool true, .pointer (some ⟨b, 0, none⟩), .pointer (some ⟨b, 0, none⟩), .pointer (some ⟨b, 2, none⟩), x, .string ⟨l.toArray⟩, .pointer (some ⟨b, 0, none⟩), .pointer (some ⟨b, 0, none⟩), .pointer (some ⟨b, 0, none⟩), .string op, undef, undef, undef, undef, undef, undef, undef, undef, undef], defers := [] }) rfl (by kernel_rfl) (by kernel_rfl) (by kernel_rfl) (by kernel_rfl) (fun W hW => ex_load1 _ _ 9 (.tmp 16) rfl ⟨b, 0, none⟩ (by kernel_rfl) W (by kernel_rfl) _ ((hW.cell (p := ⟨b, 0, none⟩) hlt).trans Hc0.out)) (by kernel_rfl) h0 ?_
    refine rg_pure 4 (oi := { dst := some 18, op := Op.binOp BinOp.add 9 (Operand.tmp 17) (Operand.const (Value.string { data := #[32] })) 9, type := 9, pos := "fault.go:24", after := #[{ on := 3, ground := Ground.data }], guard := none }) (.string ⟨(op.data.toList ++ [32]).toArray⟩) ({ tmps := #[.pointer (some ⟨b, 0, none⟩), undef, .string ⟨#[]⟩, .string ⟨l.toArray⟩, .pointer (some ⟨b, 0, none⟩), .pointer (some ⟨b, 0, none⟩), .pointer (some ⟨b, 2, none⟩), x, .bool true, .pointer (some ⟨b, 0, none⟩), .pointer (some ⟨b, 0, none⟩), .pointer (some ⟨b, 2, none⟩), x, .string ⟨l.toArray⟩, .pointer (some ⟨b, 0, none⟩), .pointer (some ⟨b, 0, none⟩), .pointer (some ⟨b, 0, none⟩), .string op, .string ⟨(op.data.toList ++ [32]).toArray⟩, undef, undef, undef, undef, undef, undef, undef, undef], defers := [] }) rfl (by kernel_rfl) (by kernel_rfl) (by kernel_rfl) (by kernel_rfl) (fun W => ex_add _ _ (.tmp 17) (.const (.string ⟨#[32]⟩)) rfl (op.data.toList) ([32]) (by kernel_rfl) (by kernel_rfl) (by omega) (by decide) W) (by kernel_rfl) h0 ?_
    refine rg_pure 5 (oi := { dst := some 19, op := Op.move (Operand.tmp 0), type := 39, pos := "fault.go:24", after := #[], guard := none }) (.pointer (some ⟨b, 0, none⟩)) ({ tmps := #[.pointer (some ⟨b, 0, none⟩), undef, .string ⟨#[]⟩, .string ⟨l.toArray⟩, .pointer (some ⟨b, 0, none⟩), .pointer (some ⟨b, 0, none⟩), .pointer (some ⟨b, 2, none⟩), x, .bool true, .pointer (some ⟨b, 0, none⟩), .pointer (some ⟨b, 0, none⟩), .pointer (some ⟨b, 2, none⟩), x, .string ⟨l.toArray⟩, .pointer (some ⟨b, 0, none⟩), .pointer (some ⟨b, 0, none⟩), .pointer (some ⟨b, 0, none⟩), .string op, .string ⟨(op.data.toList ++ [32]).toArray⟩, .pointer (some ⟨b, 0, none⟩), undef, undef, undef, undef, undef, undef, undef], defers := [] }) rfl (by kernel_rfl) (by kernel_rfl) (by kernel_rfl) (by kernel_rfl) (fun _ => by kernel_rfl) (by kernel_rfl) h0 ?_
    refine rg_pure 6 (oi := { dst := some 20, op := Op.nilCheck (Operand.tmp 19), type := 0, pos := "fault.go:24", after := #[{ on := 5, ground := Ground.data }], guard := none }) (.pointer (some ⟨b, 0, none⟩)) ({ tmps := #[.pointer (some ⟨b, 0, none⟩), undef, .string ⟨#[]⟩, .string ⟨l.toArray⟩, .pointer (some ⟨b, 0, none⟩), .pointer (some ⟨b, 0, none⟩), .pointer (some ⟨b, 2, none⟩), x, .bool true, .pointer (some ⟨b, 0, none⟩), .pointer (some ⟨b, 0, none⟩), .pointer (some ⟨b, 2, none⟩), x, .string ⟨l.toArray⟩, .pointer (some ⟨b, 0, none⟩), .pointer (some ⟨b, 0, none⟩), .pointer (some ⟨b, 0, none⟩), .string op, .string ⟨(op.data.toList ++ [32]).toArray⟩, .pointer (some ⟨b, 0, none⟩), .pointer (some ⟨b, 0, none⟩), undef, undef, undef, undef, undef, undef], defers := [] }) rfl (by kernel_rfl) (by kernel_rfl) (by kernel_rfl) (by kernel_rfl) (fun _ => by kernel_rfl) (by kernel_rfl) h0 ?_
    refine rg_pure 7 (oi := { dst := some 21, op := Op.fieldAddr 43 (Operand.tmp 20) 1, type := 0, pos := "fault.go:24", after := #[{ on := 6, ground := Ground.data }], guard := none }) (.pointer (some ⟨b, 1, none⟩)) ({ tmps := #[.pointer (some ⟨b, 0, none⟩), undef, .string ⟨#[]⟩, .string ⟨l.toArray⟩, .pointer (some ⟨b, 0, none⟩), .pointer (some ⟨b, 0, none⟩), .pointer (some ⟨b, 2, none⟩), x, .bool true, .pointer (some ⟨b, 0, none⟩), .pointer (some ⟨b, 0, none⟩), .pointer (some ⟨b, 2, none⟩), x, .string ⟨l.toArray⟩, .pointer (some ⟨b, 0, none⟩), .pointer (some ⟨b, 0, none⟩), .pointer (some ⟨b, 0, none⟩), .string op, .string ⟨(op.data.toList ++ [32]).toArray⟩, .pointer (some ⟨b, 0, none⟩), .pointer (some ⟨b, 0, none⟩), .pointer (some ⟨b, 1, none⟩), undef, undef, undef, undef, undef], defers := [] }) rfl (by kernel_rfl) (by kernel_rfl) (by kernel_rfl) (by kernel_rfl) (fun _ => by kernel_rfl) (by kernel_rfl) h0 ?_
    refine rg_read 8 (oi := { dst := some 22, op := Op.load 9 (Operand.tmp 21), type := 9, pos := "fault.go:24", after := #[{ on := 7, ground := Ground.data }], guard := none }) (.string nm) ({ tmps := #[.pointer (some ⟨b, 0, none⟩), undef, .string ⟨#[]⟩, .string ⟨l.toArray⟩, .pointer (some ⟨b, 0, none⟩), .pointer (some ⟨b, 0, none⟩), .pointer (some ⟨b, 2, none⟩), x, .bool true, .pointer (some ⟨b, 0, none⟩), .pointer (some ⟨b, 0, none⟩), .pointer (some ⟨b, 2, none⟩), x, .string ⟨l.toArray⟩, .pointer (some ⟨b, 0, none⟩), .pointer (some ⟨b, 0, none⟩), .pointer (some ⟨b, 0, none⟩), .string op, .string ⟨(op.data.toList ++ [32]).toArray⟩, .pointer (some ⟨b, 0, none⟩), .pointer (some ⟨b, 0, none⟩), .pointer (some ⟨b, 1, none⟩), .string nm, undef, undef, undef, undef], defers := [] }) rfl (by kernel_rfl) (by kernel_rfl) (by kernel_rfl) (by kernel_rfl) (fun W hW => ex_load1 _ _ 9 (.tmp 21) rfl ⟨b, 1, none⟩ (by kernel_rfl) W (by kernel_rfl) _ ((hW.cell (p := ⟨b, 1, none⟩) hlt).trans Hc1.out)) (by kernel_rfl) h0 ?_
    refine rg_pure 9 (oi := { dst := some 23, op := Op.binOp BinOp.add 9 (Operand.tmp 18) (Operand.tmp 22) 9, type := 9, pos := "fault.go:24", after := #[{ on := 4, ground := Ground.data }, { on := 8, ground := Ground.data }], guard := none }) (.string ⟨(op.data.toList ++ [32] ++ nm.data.toList).toArray⟩) ({ tmps := #[.pointer (some ⟨b, 0, none⟩), undef, .string ⟨#[]⟩, .string ⟨l.toArray⟩, .pointer (some ⟨b, 0, none⟩), .pointer (some ⟨b, 0, none⟩), .pointer (some ⟨b, 2, none⟩), x, .bool true, .pointer (some ⟨b, 0, none⟩), .pointer (some ⟨b, 0, none⟩), .pointer (some ⟨b, 2, none⟩), x, .string ⟨l.toArray⟩, .pointer (some ⟨b, 0, none⟩), .pointer (some ⟨b, 0, none⟩), .pointer (some ⟨b, 0, none⟩), .string op, .string ⟨(op.data.toList ++ [32]).toArray⟩, .pointer (some ⟨b, 0, none⟩), .pointer (some ⟨b, 0, none⟩), .pointer (some ⟨b, 1, none⟩), .string nm, .string ⟨(op.data.toList ++ [32] ++ nm.data.toList).toArray⟩, undef, undef, undef], defers := [] }) rfl (by kernel_rfl) (by kernel_rfl) (by kernel_rfl) (by kernel_rfl) (fun W => ex_add _ _ (.tmp 18) (.tmp 22) rfl (op.data.toList ++ [32]) (nm.data.toList) (by kernel_rfl) (by kernel_rfl) (by rw [List.length_append]; simp only [List.length_cons, List.length_nil]; omega) (by omega) W) (by kernel_rfl) h0 ?_
    refine rg_pure 10 (oi := { dst := some 24, op := Op.binOp BinOp.add 9 (Operand.tmp 23) (Operand.const (Value.string { data := #[58, 32] })) 9, type := 9, pos := "fault.go:24", after := #[{ on := 9, ground := Ground.data }], guard := none }) (.string ⟨(op.data.toList ++ [32] ++ nm.data.toList ++ [58, 32]).toArray⟩) ({ tmps := #[.pointer (some ⟨b, 0, none⟩), undef, .string ⟨#[]⟩, .string ⟨l.toArray⟩, .pointer (some ⟨b, 0, none⟩), .pointer (some ⟨b, 0, none⟩), .pointer (some ⟨b, 2, none⟩), x, .bool true, .pointer (some ⟨b, 0, none⟩), .pointer (some ⟨b, 0, none⟩), .pointer (some ⟨b, 2, none⟩), x, .string ⟨l.toArray⟩, .pointer (some ⟨b, 0, none⟩), .pointer (some ⟨b, 0, none⟩), .pointer (some ⟨b, 0, none⟩), .string op, .string ⟨(op.data.toList ++ [32]).toArray⟩, .pointer (some ⟨b, 0, none⟩), .pointer (some ⟨b, 0, none⟩), .pointer (some ⟨b, 1, none⟩), .string nm, .string ⟨(op.data.toList ++ [32] ++ nm.data.toList).toArray⟩, .string ⟨(op.data.toList ++ [32] ++ nm.data.toList ++ [58, 32]).toArray⟩, undef, undef], defers := [] }) rfl (by kernel_rfl) (by kernel_rfl) (by kernel_rfl) (by kernel_rfl) (fun W => ex_add _ _ (.tmp 23) (.const (.string ⟨#[58, 32]⟩)) rfl (op.data.toList ++ [32] ++ nm.data.toList) ([58, 32]) (by kernel_rfl) (by kernel_rfl) (by rw [List.length_append, List.length_append]; simp only [List.length_cons, List.length_nil]; omega) (by decide) W) (by kernel_rfl) h0 ?_
    refine rg_pure 11 (oi := { dst := some 25, op := Op.move (Operand.tmp 3), type := 9, pos := "fault.go:24", after := #[], guard := none }) (.string ⟨l.toArray⟩) ({ tmps := #[.pointer (some ⟨b, 0, none⟩), undef, .string ⟨#[]⟩, .string ⟨l.toArray⟩, .pointer (some ⟨b, 0, none⟩), .pointer (some ⟨b, 0, none⟩), .pointer (some ⟨b, 2, none⟩), x, .bool true, .pointer (some ⟨b, 0, none⟩), .pointer (some ⟨b, 0, none⟩), .pointer (some ⟨b, 2, none⟩), x, .string ⟨l.toArray⟩, .pointer (some ⟨b, 0, none⟩), .pointer (some ⟨b, 0, none⟩), .pointer (some ⟨b, 0, none⟩), .string op, .string ⟨(op.data.toList ++ [32]).toArray⟩, .pointer (some ⟨b, 0, none⟩), .pointer (some ⟨b, 0, none⟩), .pointer (some ⟨b, 1, none⟩), .string nm, .string ⟨(op.data.toList ++ [32] ++ nm.data.toList).toArray⟩, .string ⟨(op.data.toList ++ [32] ++ nm.data.toList ++ [58, 32]).toArray⟩, .string ⟨l.toArray⟩, undef], defers := [] }) rfl (by kernel_rfl) (by kernel_rfl) (by kernel_rfl) (by kernel_rfl) (fun _ => by kernel_rfl) (by kernel_rfl) h0 ?_
    refine rg_pure 12 (oi := { dst := some 26, op := Op.binOp BinOp.add 9 (Operand.tmp 24) (Operand.tmp 25) 9, type := 9, pos := "fault.go:24", after := #[{ on := 10, ground := Ground.data }, { on := 11, ground := Ground.data }], guard := none }) (.string ⟨(op.data.toList ++ [32] ++ nm.data.toList ++ [58, 32] ++ l).toArray⟩) ({ tmps := #[.pointer (some ⟨b, 0, none⟩), undef, .string ⟨#[]⟩, .string ⟨l.toArray⟩, .pointer (some ⟨b, 0, none⟩), .pointer (some ⟨b, 0, none⟩), .pointer (some ⟨b, 2, none⟩), x, .bool true, .pointer (some ⟨b, 0, none⟩), .pointer (some ⟨b, 0, none⟩), .pointer (some ⟨b, 2, none⟩), x, .string ⟨l.toArray⟩, .pointer (some ⟨b, 0, none⟩), .pointer (some ⟨b, 0, none⟩), .pointer (some ⟨b, 0, none⟩), .string op, .string ⟨(op.data.toList ++ [32]).toArray⟩, .pointer (some ⟨b, 0, none⟩), .pointer (some ⟨b, 0, none⟩), .pointer (some ⟨b, 1, none⟩), .string nm, .string ⟨(op.data.toList ++ [32] ++ nm.data.toList).toArray⟩, .string ⟨(op.data.toList ++ [32] ++ nm.data.toList ++ [58, 32]).toArray⟩, .string ⟨l.toArray⟩, .string ⟨(op.data.toList ++ [32] ++ nm.data.toList ++ [58, 32] ++ l).toArray⟩], defers := [] }) rfl (by kernel_rfl) (by kernel_rfl) (by kernel_rfl) (by kernel_rfl) (fun W => ex_add _ _ (.tmp 24) (.tmp 25) rfl (op.data.toList ++ [32] ++ nm.data.toList ++ [58, 32]) (l) (by kernel_rfl) (by kernel_rfl) (by rw [List.length_append, List.length_append, List.length_append]; simp only [List.length_cons, List.length_nil]; omega) (by omega) W) (by kernel_rfl) h0 ?_
    refine rg_pure 13 (oi := { dst := some 2, op := Op.assign (Operand.tmp 26), type := 9, pos := "fault.go:24", after := #[{ on := 12, ground := Ground.data }, { on := 0, ground := Ground.phase }, { on := 1, ground := Ground.phase }, { on := 2, ground := Ground.phase }, { on := 3, ground := Ground.phase }, { on := 4, ground := Ground.phase }, { on := 5, ground := Ground.phase }, { on := 6, ground := Ground.phase }, { on := 7, ground := Ground.phase }, { on := 8, ground := Ground.phase }, { on := 9, ground := Ground.phase }, { on := 10, ground := Ground.phase }, { on := 11, ground := Ground.phase }, { on := 12, ground := Ground.phase }], guard := none }) (.string ⟨(op.data.toList ++ [32] ++ nm.data.toList ++ [58, 32] ++ l).toArray⟩) ({ tmps := #[.pointer (some ⟨b, 0, none⟩), undef, .string ⟨(op.data.toList ++ [32] ++ nm.data.toList ++ [58, 32] ++ l).toArray⟩, .string ⟨l.toArray⟩, .pointer (some ⟨b, 0, none⟩), .pointer (some ⟨b, 0, none⟩), .pointer (some ⟨b, 2, none⟩), x, .bool true, .pointer (some ⟨b, 0, none⟩), .pointer (some ⟨b, 0, none⟩), .pointer (some ⟨b, 2, none⟩), x, .string ⟨l.toArray⟩, .pointer (some ⟨b, 0, none⟩), .pointer (some ⟨b, 0, none⟩), .pointer (some ⟨b, 0, none⟩), .string op, .string ⟨(op.data.toList ++ [32]).toArray⟩, .pointer (some ⟨b, 0, none⟩), .pointer (some ⟨b, 0, none⟩), .pointer (some ⟨b, 1, none⟩), .string nm, .string ⟨(op.data.toList ++ [32] ++ nm.data.toList).toArray⟩, .string ⟨(op.data.toList ++ [32] ++ nm.data.toList ++ [58, 32]).toArray⟩, .string ⟨l.toArray⟩, .string ⟨(op.data.toList ++ [32] ++ nm.data.toList ++ [58, 32] ++ l).toArray⟩], defers := [] }) rfl (by kernel_rfl) (by kernel_rfl) (by kernel_rfl) (by kernel_rfl) (fun _ => by kernel_rfl) (by kernel_rfl) h0 ?_
    refine rg_done (by kernel_rfl) ⟨rfl, ?_⟩ _
    exact ⟨h0, rfl⟩
  · rintro a' W ⟨hBW, rfl⟩
    have hb := hB.trans (hBW.mono hB.size)
    clear hBW
    go_wp2
    go_ret
    exact ⟨rfl, hb⟩
/-! ### Rows of values of one cell -/
theorem wpList_append_val {P : Program} {ops : Array Oper} {rest : List Oper} {o : Oper} {a : Act} {Q : Exit → Act → World → Prop} {w0 W : World} (base : Nat) (hgd : o.guard = none) (s x : Operand) (t e : TypeId) (z : Value) (bytes : Nat)
    (ho : o.op = .call { callee := .builtin .append, args := #[s, x], argTypes := #[t, t] })
    (ht : P.underlying t = some (.slice e)) (hinfo : (P.info? e).map (fun i => (i.zero, i.size, i.bytes)) = some (some z, 1, bytes)) (hz : z.cells.size = 1)
    (v : Value) (n : Nat) (xs : List Value) (y : Value) (hs : a.eval s = v) (hx : a.eval x = .slice (some ⟨W.heap.size, 0, none⟩) 1 1) (hy : y.oneCell' = true)
    (HO : W.ownsRow base e 1 v n xs) (HB : Below base w0 W) (hbase : base ≤ W.heap.size) (hn : n ≤ 1000000) (hb100 : bytes ≤ 100)
    (h : ∀ v1 w1, w1.ownsRow base e 1 v1 (n + 1) (xs ++ [y]) → Below base w0 w1 → W.grownBy w1 v.ownBlock → (v1.ownBlock = v.ownBlock ∨ v1.ownBlock = some (W.alloc (.cells #[y] e)).heap.size) → wpList P ops Q rest (a.put o.dst v1) w1) :
    wpList P ops Q (o :: rest) a (W.alloc (.cells #[y] e)) := by
  obtain ⟨i0, hi, hzz⟩ := Option.map_eq_some_iff.1 hinfo
  simp only [Prod.mk.injEq] at hzz
  obtain ⟨hz0, hz1, hz2⟩ := hzz
  have hbb : (n + 1) * bytes ≤ 1000001 * 100 := Nat.mul_le_mul (by omega) hb100
  refine wpList_append_own_at (W.alloc (.cells #[y] e)) hgd s x t ho base e i0 z 1 bytes ht hi hz0 hz1 hz2 hz (by omega) v n xs hs (HO.alloc _) ⟨W.heap.size, 0, none⟩ 1 1 [y] hx rfl
    (fun j u hu => ?_) (by simpa using hy) (by simp only [maxLen]; omega) (by omega) (by simp; omega) ?_
  · have hc := cell_of_row (W.alloc (.cells #[y] e)) W.heap.size j _ _ _ (heap_alloc_new W _)
    have hadd : (⟨W.heap.size, 0, none⟩ : Addr).add j = ⟨W.heap.size, j, none⟩ := by unfold Addr.add; split <;> simp_all
    rw [hadd, hc]
    simpa using hu
  intro v1 w1 hown hg _ hat
  exact h v1 w1 hown ((HB.alloc hbase _).grown hg (by simp; omega) (own_base HO)) (World.grownBy.trans (World.grownBy_alloc W _ _) hg) hat
theorem le_join {x : List UInt8} {xs : List (List UInt8)} (sep : List UInt8) (h : x ∈ xs) : x.length ≤ (Lib.join xs sep).length := by
  have ht : ∀ (r : List (List UInt8)), x ∈ r → x.length ≤ (Lib.joinTail sep r).length := by
    intro r
    induction r with
    | nil => intro h; cases h
    | cons y r ih =>
      intro h
      have e : Lib.joinTail sep (y :: r) = (sep ++ y) ++ Lib.joinTail sep r := by simp [Lib.joinTail]
      rw [e, List.length_append, List.length_append]
      rcases List.mem_cons.1 h with rfl | h
      · omega
      · have := ih h
        omega
  cases xs with
  | nil => cases h
  | cons y r =>
    rw [Lib.join_cons, List.length_append]
    rcases List.mem_cons.1 h with rfl | h
    · omega
    · have := ht r h
      omega
def strs (f : Nat → List UInt8) (n : Nat) : List Value := (List.range n).map fun i => .string ⟨(f i).toArray⟩
theorem strs_succ (f : Nat → List UInt8) (n : Nat) : strs f (n + 1) = strs f n ++ [.string ⟨(f n).toArray⟩] := by simp [strs, List.range_succ]
theorem strs_length (f : Nat → List UInt8) (n : Nat) : (strs f n).length = n := by simp [strs]
set_option maxRecDepth 100000 in
set_option maxHeartbeats 2000000 in
theorem jerror_any (b r o len c : Nat) (xs : Nat → Value) (f : Nat → List UInt8) (B : Nat) (w : World) (hr : w.heap[b]? = some (.cells #[.slice (some ⟨r, o, none⟩) len c] 60 (0, 0))) (hrb : r < B) (hBz : B ≤ w.heap.size) (hm : len ≤ 1000) (hl : 0 < len) (hlc : len ≤ c) (hc : ∀ i, i < len → w.cell? ⟨r, o + i, none⟩ = some (xs i))
    (hT : (Lib.join ((List.range len).map f) [10]).length ≤ 1000000) (h : ∀ i, i < len → ∀ w', Below B w w' → B ≤ w'.heap.size → Calls Tryd.prog 14 #[xs i] w' (StrPost (f i) w')) :
    Calls Tryd.prog 29 #[.pointer (some ⟨b, 0, none⟩)] w (StrPost (Lib.join ((List.range len).map f) [10]) w) := by
  have c0 : w.cell? ⟨b, 0, none⟩ = some (.slice (some ⟨r, o, none⟩) len c) := cell_of_row _ _ 0 _ _ _ hr
  have H := keep h
  have Hc := keep hc
  have HT := keep hT
  clear h hr hc hT
  go_enter Tryd.func29, Tryd.ntmps29
  go_wp2_with fail
  go_loopw [3, 11] (fun v i wr => ∃ (j : Nat) (v1 : Value), v1 = v ∧ i = .int .i64 j ∧ j ≤ len ∧ wr.ownsRow w.heap.size 9 1 v1 j (strs f j) ∧ Below w.heap.size w wr) (fun _ i _ => len - (intOf i).toNat)
  case atStart => exact ⟨0, .slice none 0 0, rfl, rfl, by omega, ⟨rfl, .inl ⟨rfl, rfl⟩⟩, Below.refl _ _⟩
  case round =>
    obtain ⟨j, v1, rfl, rfl, hj, hO, hB⟩ := hrel
    by_cases hjl : j < len
    · have ht : decide ((j : Int) < (len : Int)) = true := by simp; omega
      have hcj : wr.cell? ⟨r, o + j, none⟩ = some (xs j) := (hB.cell (p := ⟨r, o + j, none⟩) (by show r < w.heap.size; omega)).trans (Hc.out j hjl)
      have hk0 : (0 : Int) ≤ (j : Int) := by omega
      have hk1 : (j : Int) < (len : Int) := by omega
      have hcall := H.out j hjl wr (hB.mono hBz) (Nat.le_trans hBz hB.size)
      have HO := keep hO
      have HB := keep hB
      have Hcall := keep hcall
      clear hO hB hcall
      go_wp2_with fail
      refine Hcall.out.mono ?_
      rintro e w2 ⟨rfl, hB2⟩
      have hO2 : w2.ownsRow w.heap.size 9 1 v1 j (strs f j) := HO.out.kept (below_grownBy hB2 none) (by cases v1.ownBlock <;> simp)
      have hb2 := HB.out.trans (hB2.mono HB.out.size)
      have hz2 := hb2.size
      have HO2 := keep hO2
      have Hb2 := keep hb2
      clear hO2 hb2 hB2
      go_wp2_with (at_builtin; refine wpList_append_val (w0 := w) (W := w2) w.heap.size rfl (.tmp 15) (.tmp 18) 29 9 (.string ⟨#[]⟩) 16 rfl Tryd.underlying29 (by kernel_rfl) rfl v1 j (strs f j) (.string ⟨(f j).toArray⟩) rfl rfl rfl HO2.out Hb2.out hz2 (by omega) (by omega) ?_)
      intro v3 w3 hO3 hb3 _ _
      rw [← strs_succ] at hO3
      have HO3 := keep hO3
      have Hb3 := keep hb3
      clear hO3 hb3
      go_wp2_with fail
      go_roundw
      case rel => exact ⟨j + 1, v3, rfl, by go_num, by omega, HO3.out, Hb3.out⟩
      case measure => simp [intOf]; omega
    · obtain rfl : j = len := by omega
      have ht : decide ((j : Int) < (j : Int)) = false := by simp
      obtain ⟨g, cap, rfl, hlt, hcap⟩ : ∃ g cap, v1 = .slice (some ⟨g, 0, none⟩) j cap ∧ g < wr.heap.size ∧ j ≤ cap := by
        rcases hO.2 with ⟨_, h2⟩ | ⟨g, cap, cur, h1, _, hh, hnc, _⟩
        · omega
        · exact ⟨g, cap, h1, row_lt hh, hnc⟩
      have hcells := hO.cells (g := g) rfl
      have hjn := Tryd.strings_Join g 0 cap ((List.range j).map fun i => (⟨(f i).toArray⟩ : ByteArray)) ⟨[10].toArray⟩ wr
        (fun i x hx => by
          have hi : i < j := by
            have := (List.getElem?_eq_some_iff.1 hx).1
            simpa using this
          have h1 := hcells i (.string x) (by
            simp only [strs, List.getElem?_map, List.getElem?_range hi, Option.map_some] at hx ⊢
            injection hx with hx
            rw [hx])
          have hadd : (⟨g, 0, none⟩ : Addr).add i = ⟨g, i, none⟩ := by unfold Addr.add; split <;> simp_all
          rw [hadd] at h1
          rw [Nat.zero_add]
          exact h1) hlt (by simp; omega) (by rw [List.length_map, List.length_range]; exact hcap) (by
          have := HT.out
          simp only [List.map_map]
          show (Lib.join ((List.range j).map f) [10]).length ≤ _
          omega)
      have e1 : ((List.range j).map fun i => (⟨(f i).toArray⟩ : ByteArray)).map (·.data.toList) = (List.range j).map f := by simp [List.map_map, Function.comp_def]
      rw [e1, List.length_map, List.length_range] at hjn
      have Hjn := keep hjn
      have HB := keep hB
      clear hcells hjn e1 hO hB
      go_wp2_with fail
      refine Hjn.out.mono ?_
      rintro e w5 ⟨rfl, hB5⟩
      have hb5 := HB.out.trans (hB5.mono HB.out.size)
      go_wp2_with fail
      go_ret
      exact ⟨rfl, hb5⟩
/-- Fault.Text, of any error. -/
theorem text_any {W : World} {B d k : Nat} {v : Value} {a : EA} (h : IsE W B d k v a) (hN : 5 ≤ B) (w : World) (hW : Below B W w) (hBz : B ≤ w.heap.size) (he : Env w) (hl : a.txt.length ≤ 1000000) : Calls Tryd.prog 14 #[v] w (StrPost a.txt w) := by
  induction h generalizing w with
  | num d n h0 h1 => exact text_said _ _ w (said_num n h0 h1 w he)
  | fault d k b op nm x a hb hr hx ih =>
    obtain ⟨T0, x0, hx0⟩ := hx.iface
    subst hx0
    simp only [List.length_append, List.length_cons, List.length_nil] at hl
    exact text_said _ _ w (said_fault b _ w (ferror_any b op nm T0 x0 a.txt w ((hW.block _ hb).trans hr) (by omega) (ih w hW hBz he (by omega))))
  | joined d b r o len c ks xs es hb hrb hr hlen hlc hm hc hx ih =>
    refine text_said _ _ w (said_joined b _ w (jerror_any b r o len c xs (fun i => (es i).txt) B w ((hW.block _ hb).trans hr) hrb hBz hm hlen hlc (fun i hi => (hW.cell (p := ⟨r, o + i, none⟩) hrb).trans (hc i hi)) hl ?_))
    intro i hi w' hb' hz'
    refine ih i hi w' (hW.trans hb') hz' (he.below hb' hN) ?_
    exact Nat.le_trans (le_join [10] (List.mem_map.2 ⟨i, List.mem_range.2 hi, rfl⟩)) hl
end Go.Proofs.YthamnnhpagllcaaDoor
