/- What the package variables hold; errors.As; an error's text. -/
import Derived.Test.YthamnnhpagllcaaDoorErrC
import Derived.Lib.ItoaLen
import Derived.Lib.AppendIntMem
namespace Go.Proofs.YthamnnhpagllcaaDoor
open Go.RowKit Go.Extern.Stop Go.Stop Go.Extern

/-- The package variables that the calls read. -/
structure Env (W : World) : Prop where
  et : W.cell? ⟨0, 0, none⟩ = some (.iface 79 (.agg #[.pointer (some ⟨5, 27, none⟩)]))
  tab : Lib.TabIs Tryd.prog W "internal/strconv.uint64pow10" .u64 Lib.pow10Tab
theorem pow10_at : Tryd.prog.globalNamed "internal/strconv.uint64pow10" = some 1 := by kernel_rfl
theorem Env.below {W W' : World} {B : Nat} (h : Env W) (hb : Below B W W') (hB : 5 ≤ B) : Env W' := by
  refine ⟨(hb.cell (p := ⟨0, 0, none⟩) (Nat.lt_of_lt_of_le (by decide) hB)).trans h.et, ?_⟩
  have ht := h.tab
  unfold Lib.TabIs World.var? at ht ⊢
  rw [pow10_at] at ht ⊢
  simp only [Option.bind_some] at ht ⊢
  rw [hb.block _ (Nat.lt_of_lt_of_le (by decide) hB)]
  exact ht
set_option maxRecDepth 100000 in
set_option maxHeartbeats 4000000 in
theorem errAs_any {W : World} {B d k : Nat} {v : Value} {a : EA} (hE : IsE W B d k v a) (w : World) (tb : Nat) (old : Value) (hW : Below B W w) (hBz : B ≤ w.heap.size) (hBt : B ≤ tb) (henv : Env w) (ht : w.heap[tb]? = some (.cells #[old] 25 (0, 0))) :
    Calls Tryd.prog 24 #[v, .iface 62 (.pointer (some ⟨tb, 0, none⟩))] w (AsPost tb a.first w) := by
  have h1 : Below w.heap.size w (w.alloc (.cells #[.pointer (some ⟨tb, 0, none⟩)] 62)) := (Below.refl _ _).alloc (Nat.le_refl _) _
  have hz1 : (w.alloc (.cells #[.pointer (some ⟨tb, 0, none⟩)] 62)).heap.size = w.heap.size + 1 := by simp
  have h2 : Below w.heap.size w ((w.alloc (.cells #[.pointer (some ⟨tb, 0, none⟩)] 62)).alloc (.cells #[.pointer (some ⟨5, 62, none⟩), .pointer (some ⟨w.heap.size, 0, none⟩), .int .u64 150] 71)) := h1.alloc (by rw [hz1]; omega) _
  have hv2 : ((w.alloc (.cells #[.pointer (some ⟨tb, 0, none⟩)] 62)).alloc (.cells #[.pointer (some ⟨5, 62, none⟩), .pointer (some ⟨w.heap.size, 0, none⟩), .int .u64 150] 71)).heap[w.heap.size]? = some (.cells #[.pointer (some ⟨tb, 0, none⟩)] 62 (0, 0)) := by
    rw [Below.heap_alloc _ _ _ (by rw [hz1]; omega)]
    exact heap_alloc_new w _
  have ht2 := (h2.block _ (row_lt ht)).trans ht
  have hrec := as_any W B d k v a hE _ tb w.heap.size old (hW.trans (h2.mono hBz)) (Nat.le_trans hBz h2.size) hBt ht2 hv2
  have cE := (h2.cell (p := ⟨0, 0, none⟩) (World.block_lt_of_cell? w _ henv.et)).trans henv.et
  have nI := isNilPE ⟨w.heap.size, 0, none⟩ ⟨tb, 0, none⟩ _ (cell_of_row _ w.heap.size 0 _ _ _ hv2)
  have hg2 := below_grownBy h2 (some tb)
  obtain ⟨T0, x0, hx0⟩ := hE.iface
  subst hx0
  have hnil := ifaceNil T0 x0
  have Hrec := keep hrec
  have Hg2 := keep hg2
  clear h1 hz1 h2 hv2 ht2 hrec hg2 hE henv ht hW
  have xV := ext_ValueOf
  have xT := ext_Type
  have xN := ext_IsNil
  have xK := ext_Kind
  have xE := ext_TElem
  have xI := ext_Impl
  have f6 := valueOfPE ⟨tb, 0, none⟩
  have f7 := typePE
  have mK := methodKind
  have mE := methodElem
  have mI := methodImplements
  have k1 := kindPE
  have k2 := kindE
  have e1 := elemPE
  have i1 := implE
  go_enter Tryd.func24, Tryd.ntmps24
  go_wp2_with fail
  refine Hrec.out.mono ?_
  rintro e w3 ⟨rfl, h3, hg3⟩
  have hp : AsPost tb a.first w (.returned (.bool true)) w3 := ⟨rfl, h3, World.grownBy.trans Hg2.out hg3⟩
  have Hp := keep hp
  clear hp h3 hg3
  go_wp2_with fail
  go_ret
  exact Hp.out
/-! ### Texts -/
def StrPost (l : List UInt8) (w : World) (e : Ending) (w' : World) : Prop := e = .returned (.string ⟨l.toArray⟩) ∧ Below w.heap.size w w'
theorem add_str (x y : List UInt8) (hx : x.length ≤ 4000000) (hy : y.length ≤ 4000000) (W : World) : (Op.stringOp .add ⟨x.toArray⟩ ⟨y.toArray⟩).run Tryd.prog W = .ok (.string ⟨(x ++ y).toArray⟩) W :=
  run_string_add_lists W x y (by omega) (by omega)
theorem ex_add (a : Act) (o : Oper) (x y : Operand) (ho : o.op = .binOp .add 9 x y 9) (s t : List UInt8) (hx : a.eval x = .string ⟨s.toArray⟩) (hy : a.eval y = .string ⟨t.toArray⟩) (hs : s.length ≤ 4000000) (ht : t.length ≤ 4000000) (W : World) :
    (execOp a.eval o).run Tryd.prog W = .ok (.value (.string ⟨(s ++ t).toArray⟩)) W := by
  unfold execOp
  have hg : (eqGuard BinOp.add 9 x y (.string ⟨s.toArray⟩) (.string ⟨t.toArray⟩)).run Tryd.prog W = .ok () W := by simp [eqGuard]
  simp only [ho, hx, hy, Sem.run_bind, hg, Result.andThen_ok, binOp_string_add, add_str s t hs ht W]
  rfl
theorem itoa_any (n : Int) (h0 : -9223372036854775808 ≤ n) (h1 : n ≤ 9223372036854775807) (w : World) (he : Env w) : Calls Tryd.prog 34 #[.int .i64 n] w (StrPost (Lib.itoa n) w) :=
  (Tryd.strconv_Itoa n h0 h1 w he.tab).mono fun e w' ⟨h, k, os, hw⟩ => ⟨h, by rw [hw]; exact Lib.below_grow _ _ (Nat.le_refl _) _ _⟩
set_option maxRecDepth 100000 in
theorem errno_any (n : Int) (h0 : -9223372036854775808 ≤ n) (h1 : n ≤ 9223372036854775807) (w : World) (he : Env w) : Calls Tryd.prog 28 #[.int .i64 n] w (StrPost (errTxt n) w) := by
  have hi := keep (itoa_any n h0 h1 w he)
  have hadd := add_str [101, 114, 114, 32] (Lib.itoa n) (by simp) (by have := Lib.itoa_length_le n h0 h1; omega)
  have e0 : ([101, 114, 114, 32] : List UInt8).toArray = #[101, 114, 114, 32] := rfl
  rw [e0] at hadd
  clear he
  go_enter Tryd.func28, Tryd.ntmps28
  go_wp2_with fail
  refine hi.out.mono ?_
  rintro e w1 ⟨rfl, hB⟩
  go_wp2_with fail
  go_ret
  exact ⟨rfl, hB⟩
theorem assertEE (v : Value) (w : World) : (Instr.typeAssert (.iface 25 v) 27 25 true).run Tryd.prog w = .ok (.tuple #[v, .bool true]) w := by kernel_rfl
theorem assertFE (v : Value) (w : World) : (Instr.typeAssert (.iface 39 v) 27 25 true).run Tryd.prog w = .ok (.tuple #[.int .i64 0, .bool false]) w := by kernel_rfl
theorem assertJE (v : Value) (w : World) : (Instr.typeAssert (.iface 58 v) 27 25 true).run Tryd.prog w = .ok (.tuple #[.int .i64 0, .bool false]) w := by kernel_rfl
theorem assertEF (v : Value) (w : World) : (Instr.typeAssert (.iface 25 v) 27 39 true).run Tryd.prog w = .ok (.tuple #[.pointer none, .bool false]) w := by kernel_rfl
theorem assertFF (v : Value) (w : World) : (Instr.typeAssert (.iface 39 v) 27 39 true).run Tryd.prog w = .ok (.tuple #[v, .bool true]) w := by kernel_rfl
theorem assertJF (v : Value) (w : World) : (Instr.typeAssert (.iface 58 v) 27 39 true).run Tryd.prog w = .ok (.tuple #[.pointer none, .bool false]) w := by kernel_rfl
theorem assertEJ (v : Value) (w : World) : (Instr.typeAssert (.iface 25 v) 27 58 true).run Tryd.prog w = .ok (.tuple #[.pointer none, .bool false]) w := by kernel_rfl
theorem assertJJ (v : Value) (w : World) : (Instr.typeAssert (.iface 58 v) 27 58 true).run Tryd.prog w = .ok (.tuple #[v, .bool true]) w := by kernel_rfl
set_option maxRecDepth 100000 in
theorem said_num (n : Int) (h0 : -9223372036854775808 ≤ n) (h1 : n ≤ 9223372036854775807) (w : World) (he : Env w) : Calls Tryd.prog 23 #[.iface 25 (.int .i64 n)] w (StrPost (errTxt n) w) := by
  have hi := keep (errno_any n h0 h1 w he)
  have hnil := ifaceNil 25 (.int .i64 n)
  have a1 := assertEE
  have a2 := assertEF
  clear he
  go_enter Tryd.func23, Tryd.ntmps23
  go_wp2_with fail
  refine hi.out.mono ?_
  rintro e w1 ⟨rfl, hB⟩
  go_wp2_with fail
  go_ret
  exact ⟨rfl, hB⟩
set_option maxRecDepth 100000 in
theorem said_fault (b : Nat) (l : List UInt8) (w : World) (h : Calls Tryd.prog 27 #[.pointer (some ⟨b, 0, none⟩)] w (StrPost l w)) : Calls Tryd.prog 23 #[.iface 39 (.pointer (some ⟨b, 0, none⟩))] w (StrPost l w) := by
  have hi := keep h
  have hnil := ifaceNil 39 (.pointer (some ⟨b, 0, none⟩))
  have a2 := assertFF
  clear h
  go_enter Tryd.func23, Tryd.ntmps23
  go_wp2_with fail
  refine hi.out.mono ?_
  rintro e w1 ⟨rfl, hB⟩
  go_wp2_with fail
  go_ret
  exact ⟨rfl, hB⟩
set_option maxRecDepth 100000 in
theorem said_joined (b : Nat) (l : List UInt8) (w : World) (h : Calls Tryd.prog 29 #[.pointer (some ⟨b, 0, none⟩)] w (StrPost l w)) : Calls Tryd.prog 23 #[.iface 58 (.pointer (some ⟨b, 0, none⟩))] w (StrPost l w) := by
  have hi := keep h
  have hnil := ifaceNil 58 (.pointer (some ⟨b, 0, none⟩))
  have a1 := assertJE
  have a2 := assertJF
  have a3 := assertJJ
  clear h
  go_enter Tryd.func23, Tryd.ntmps23
  go_wp2_with fail
  refine hi.out.mono ?_
  rintro e w1 ⟨rfl, hB⟩
  go_wp2_with fail
  go_ret
  exact ⟨rfl, hB⟩
set_option maxRecDepth 100000 in
theorem text_said (v : Value) (l : List UInt8) (w : World) (h : Calls Tryd.prog 23 #[v] w (StrPost l w)) : Calls Tryd.prog 14 #[v] w (StrPost l w) := by
  have hi := keep h
  clear h
  go_enter Tryd.func14, Tryd.ntmps14
  go_wp2_with fail
  refine hi.out.mono ?_
  rintro e w1 ⟨rfl, hB⟩
  go_wp2_with fail
  go_ret
  exact ⟨rfl, hB⟩
end Go.Proofs.YthamnnhpagllcaaDoor
