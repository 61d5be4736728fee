/- Contracts of the tables of both texts. -/
import Derived.Test.YtmfgcdfemhaieaaShaB
namespace Go.Proofs.Ytmfgcdfemhaieaa
open Go.RowKit

def ksP : List Int := [1116352408, 1899447441, 3049323471, 3921009573, 961987163, 1508970993, 2453635748, 2870763221, 3624381080, 310598401, 607225278, 1426881987, 1925078388, 2162078206, 2614888103, 3248222580, 3835390401, 4022224774, 264347078, 604807628, 770255983, 1249150122, 1555081692, 1996064986, 2554220882, 2821834349, 2952996808, 3210313671, 3336571891, 3584528711, 113926993, 338241895, 666307205, 773529912, 1294757372, 1396182291, 1695183700, 1986661051, 2177026350, 2456956037, 2730485921, 2820302411, 3259730800, 3345764771, 3516065817, 3600352804, 4094571909, 275423344, 430227734, 506948616, 659060556, 883997877, 958139571, 1322822218, 1537002063, 1747873779, 1955562222, 2024104815, 2227730452, 2361852424, 2428436474, 2756734187, 3204031479, 3329325298]
def h0P : List Int := [1779033703, 3144134277, 1013904242, 2773480762, 1359893119, 2600822924, 528734635, 1541459225]
theorem wpList_build_as {P : Program} {ops : Array Oper} {rest : List Oper} {o : Oper} {a : Act} {w : World} {Q : Exit → Act → World → Prop} (hg : o.guard = none) (t : TypeId) (parts : Array (Nat × Operand)) (ho : o.op = .build t parts)
    (v : Array Value) (hf : P.built t (parts.map fun (i, x) => (i, a.eval x)).toList = some v)
    (h : wpList P ops Q rest (a.put o.dst (.agg v)) w) : wpList P ops Q (o :: rest) a w :=
  wpList_build hg t parts ho (by rw [hf]; rfl) (by rw [hf]; exact h)
set_option maxRecDepth 100000 in
theorem table_any (w : World) : Calls Try.prog 54 #[] w fun e w' => e = .returned (.agg (vals ksP)) ∧ Below w.heap.size w w' := by
  go_enter Try.func54, Try.ntmps54
  go_wp2_with (first | (refine wpList_build_as rfl 105 _ rfl (vals ksP) (by kernel_rfl) ?_) | (refine wpList_store_row rfl 105 (.tmp 0) (.tmp 1) rfl w.heap.size (vals ksP) rfl rfl 105 _ (heap_alloc_new w _) (by kernel_rfl) rfl (by kernel_rfl) ?_; rw [setRow_alloc]))
  refine bodyPost_ret (results_cell_row (p := 0) (ty := 105) rfl _ _ w.heap.size 105 (vals ksP) (0, 0) _ rfl (heap_alloc_new w _) Try.underlying105 rfl (by kernel_rfl)) rfl ⟨rfl, ?_⟩
  exact (Below.refl _ _).alloc (Nat.le_refl _) _
set_option maxRecDepth 100000 in
theorem round_any (w : World) : Calls Try.prog 58 #[] w fun e w' => e = .returned (.agg (vals ksP)) ∧ Below w.heap.size w w' := by
  go_enter Try.func58, Try.ntmps58
  go_wp2_with (first | (refine wpList_build_as rfl 105 _ rfl (vals ksP) (by kernel_rfl) ?_) | (refine wpList_store_row rfl 105 (.tmp 0) (.tmp 1) rfl w.heap.size (vals ksP) rfl rfl 105 _ (heap_alloc_new w _) (by kernel_rfl) rfl (by kernel_rfl) ?_; rw [setRow_alloc]))
  refine bodyPost_ret (results_cell_row (p := 0) (ty := 105) rfl _ _ w.heap.size 105 (vals ksP) (0, 0) _ rfl (heap_alloc_new w _) Try.underlying105 rfl (by kernel_rfl)) rfl ⟨rfl, ?_⟩
  exact (Below.refl _ _).alloc (Nat.le_refl _) _
set_option maxRecDepth 100000 in
theorem begin_any (w : World) : Calls Try.prog 57 #[] w fun e w' => e = .returned (.agg (vals h0P)) ∧ Below w.heap.size w w' := by
  go_enter Try.func57, Try.ntmps57
  go_wp2_with (first | (refine wpList_build_as rfl 104 _ rfl (vals h0P) (by kernel_rfl) ?_) | (refine wpList_store_row rfl 104 (.tmp 0) (.tmp 1) rfl w.heap.size (vals h0P) rfl rfl 104 _ (heap_alloc_new w _) (by kernel_rfl) rfl (by kernel_rfl) ?_; rw [setRow_alloc]))
  refine bodyPost_ret (results_cell_row (p := 0) (ty := 104) rfl _ _ w.heap.size 104 (vals h0P) (0, 0) _ rfl (heap_alloc_new w _) Try.underlying104 rfl (by kernel_rfl)) rfl ⟨rfl, ?_⟩
  exact (Below.refl _ _).alloc (Nat.le_refl _) _
end Go.Proofs.Ytmfgcdfemhaieaa
