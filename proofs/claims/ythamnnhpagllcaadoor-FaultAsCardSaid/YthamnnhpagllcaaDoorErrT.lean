/- errors.As at a fault's variable: an error that is a fault; one that is a number. The law's own 'found'. -/
import Derived.Test.YthamnnhpagllcaaDoorErrS
import Derived.Test.YthamnnhpagllcaaDoorErrN
namespace Go.Proofs.YthamnnhpagllcaaDoor
open Go.RowKit Go.Extern.Stop Go.Stop Go.Extern

def AsF (r : Bool) (tb : Nat) (u : Value) (w : World) (e : Ending) (w' : World) : Prop := e = .returned (.bool r) ∧ w'.heap[tb]? = some (.cells #[u] 39 (0, 0)) ∧ w.grownBy w' (some tb)
set_option maxRecDepth 100000 in
set_option maxHeartbeats 4000000 in
theorem asF_hit (p : Addr) (w : World) (tb vb : Nat) (old : Value) (ht : w.heap[tb]? = some (.cells #[old] 39 (0, 0))) (hv : w.heap[vb]? = some (.cells #[.pointer (some ⟨tb, 0, none⟩)] 57 (0, 0))) :
    Calls Tryd.prog 33 #[.iface 39 (.pointer (some p)), .iface 57 (.pointer (some ⟨tb, 0, none⟩)), .agg #[.pointer (some ⟨5, 57, none⟩), .pointer (some ⟨vb, 0, none⟩), .int .u64 150], .iface 79 (.agg #[.pointer (some ⟨5, 39, none⟩)])] w (AsF true tb (.pointer (some p)) w) := by
  have hal : Below w.heap.size w (w.alloc (.cells #[.pointer (some ⟨5, 57, none⟩), .pointer (some ⟨vb, 0, none⟩), .int .u64 150] 71)) := (Below.refl _ _).alloc (Nat.le_refl _) _
  have hta := (hal.block _ (row_lt ht)).trans ht
  have hva := (hal.block _ (row_lt hv)).trans hv
  have hga := below_grownBy hal (some tb)
  have hlt := row_lt hta
  have hzz : (w.alloc (.cells #[.pointer (some ⟨5, 57, none⟩), .pointer (some ⟨vb, 0, none⟩), .int .u64 150] 71)).heap.size = w.heap.size + 1 := by simp
  have Hcv := keep (cell_of_row _ vb 0 _ _ _ hva)
  have Hta := keep hta
  have Hga := keep hga
  have Hzz := keep hzz
  clear hta hva hga hzz ht hv hal
  have xT := ext_TypeOf
  have xA := ext_Assign
  have mA := methodAssignable
  go_enter Tryd.func33, Tryd.ntmps33
  go_wp2_with fail
  refine wp_loop_rounds 1 ?_
  rw [rounds_succ]
  have tO := typeOfF
  have aE := assignFF
  have xE := ext_VElem
  have xV := ext_ValueOf
  have xS := ext_Set
  have el := elemVPF ⟨vb, 0, none⟩ ⟨tb, 0, none⟩ _ Hcv.out
  have vE := valueOfF p
  have hb2 : Below (w.heap.size + 1) (w.alloc (.cells #[.pointer (some ⟨5, 57, none⟩), .pointer (some ⟨vb, 0, none⟩), .int .u64 150] 71)) ((w.alloc (.cells #[.pointer (some ⟨5, 57, none⟩), .pointer (some ⟨vb, 0, none⟩), .int .u64 150] 71)).alloc (.cells #[.pointer (some p)] 39)) := by
    rw [← Hzz.out]
    exact (Below.refl _ _).alloc (Nat.le_refl _) _
  have ht2 := (hb2.block _ (by rw [Hzz.out] at hlt; exact hlt)).trans Hta.out
  have hn2 := heap_alloc_new (w.alloc (.cells #[.pointer (some ⟨5, 57, none⟩), .pointer (some ⟨vb, 0, none⟩), .int .u64 150] 71)) (.cells #[.pointer (some p)] 39)
  rw [Hzz.out] at hn2
  have st := setF ⟨tb, 0, none⟩ ⟨w.heap.size + 1, 0, none⟩ p old _ (cell_of_row _ _ 0 _ _ _ hn2) (cell_of_row _ _ 0 _ _ _ ht2) (frozen_of_row _ _ 0 _ _ ht2)
  have hpost : AsF true tb (.pointer (some p)) w (.returned (.bool true)) (((w.alloc (.cells #[.pointer (some ⟨5, 57, none⟩), .pointer (some ⟨vb, 0, none⟩), .int .u64 150] 71)).alloc (.cells #[.pointer (some p)] 39)).setCell ⟨tb, 0, none⟩ (.pointer (some p))) := by
    refine ⟨rfl, ?_, World.grownBy.trans (World.grownBy.trans Hga.out (grown_alloc' _ _ _)) (grown_setCell _ tb 0 _)⟩
    rw [heap_setCell_same _ tb 0 _ _ _ ht2]
    rfl
  have Hp := keep hpost
  clear hb2 ht2 hn2 hpost
  go_wp2_with fail
  go_ret
  exact Hp.out
set_option maxRecDepth 100000 in
set_option maxHeartbeats 4000000 in
theorem asF_miss (n : Int) (w : World) (tb vb : Nat) (old : Value) (ht : w.heap[tb]? = some (.cells #[old] 39 (0, 0))) :
    Calls Tryd.prog 33 #[.iface 25 (.int .i64 n), .iface 57 (.pointer (some ⟨tb, 0, none⟩)), .agg #[.pointer (some ⟨5, 57, none⟩), .pointer (some ⟨vb, 0, none⟩), .int .u64 150], .iface 79 (.agg #[.pointer (some ⟨5, 39, none⟩)])] w (AsF false tb old w) := by
  have hal : Below w.heap.size w (w.alloc (.cells #[.pointer (some ⟨5, 57, none⟩), .pointer (some ⟨vb, 0, none⟩), .int .u64 150] 71)) := (Below.refl _ _).alloc (Nat.le_refl _) _
  have hp : AsF false tb old w (.returned (.bool false)) (w.alloc (.cells #[.pointer (some ⟨5, 57, none⟩), .pointer (some ⟨vb, 0, none⟩), .int .u64 150] 71)) := ⟨rfl, (hal.block _ (row_lt ht)).trans ht, below_grownBy hal _⟩
  have Hp := keep hp
  clear hp hal ht
  have xT := ext_TypeOf
  have xA := ext_Assign
  have mA := methodAssignable
  have nA := noAs
  have tO := typeOfE
  have aE := assignEF
  have uE := unwE
  have uL := unlE
  go_enter Tryd.func33, Tryd.ntmps33
  go_wp2_with fail
  refine wp_loop_rounds 1 ?_
  rw [rounds_succ]
  go_wp2_with fail
  go_ret
  exact Hp.out
end Go.Proofs.YthamnnhpagllcaaDoor
