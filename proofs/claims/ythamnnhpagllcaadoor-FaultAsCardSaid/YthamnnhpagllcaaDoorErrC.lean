/- errors.As at a number's variable: the first number is found. -/
import Derived.Test.YthamnnhpagllcaaDoorErrB
namespace Go.Proofs.YthamnnhpagllcaaDoor
open Go.RowKit Go.Extern.Stop Go.Stop Go.Extern

def AsPost (tb : Nat) (n : Int) (w : World) (e : Ending) (w' : World) : Prop := e = .returned (.bool true) ∧ w'.heap[tb]? = some (.cells #[.int .i64 n] 25 (0, 0)) ∧ w.grownBy w' (some tb)
theorem grown_alloc' (w : World) (o : Obj) (row : Option Nat) : w.grownBy (w.alloc o) row := below_grownBy ((Below.refl _ _).alloc (Nat.le_refl _) o) row
set_option maxRecDepth 100000 in
set_option maxHeartbeats 4000000 in
theorem as_any (W : World) (B : Nat) (d : Nat) : ∀ (k : Nat) (v : Value) (a : EA), IsE W B d k v a → ∀ (w : World) (tb vb : Nat) (old : Value), Below B W w → B ≤ w.heap.size → B ≤ tb → w.heap[tb]? = some (.cells #[old] 25 (0, 0)) → w.heap[vb]? = some (.cells #[.pointer (some ⟨tb, 0, none⟩)] 62 (0, 0)) →
    Calls Tryd.prog 33 #[v, .iface 62 (.pointer (some ⟨tb, 0, none⟩)), .agg #[.pointer (some ⟨5, 62, none⟩), .pointer (some ⟨vb, 0, none⟩), .int .u64 150], .iface 79 (.agg #[.pointer (some ⟨5, 25, none⟩)])] w (AsPost tb a.first w) := by
  induction d using Nat.strongRecOn with
  | ind d ih =>
  intro k v a hE w tb vb old hW hBz hBt ht hv
  have hal : Below w.heap.size w (w.alloc (.cells #[.pointer (some ⟨5, 62, none⟩), .pointer (some ⟨vb, 0, none⟩), .int .u64 150] 71)) := (Below.refl _ _).alloc (Nat.le_refl _) _
  have hta := (hal.block _ (row_lt ht)).trans ht
  have hva := (hal.block _ (row_lt hv)).trans hv
  have hWa := hW.trans (hal.mono hBz)
  have hga := below_grownBy hal (some tb)
  have hea : ∀ (k' : Nat) (v' : Value) (a' : EA), IsE W B d k' v' a' → IsE (w.alloc (.cells #[.pointer (some ⟨5, 62, none⟩), .pointer (some ⟨vb, 0, none⟩), .int .u64 150] 71)) B d k' v' a' := fun k' v' a' h => h.under hWa
  have cv := cell_of_row _ vb 0 _ _ _ hva
  have ct := cell_of_row _ tb 0 _ _ _ hta
  have ft := frozen_of_row _ tb 0 _ _ hta
  have hlt := row_lt hta
  have hlv := row_lt hva
  have hzz : (w.alloc (.cells #[.pointer (some ⟨5, 62, none⟩), .pointer (some ⟨vb, 0, none⟩), .int .u64 150] 71)).heap.size = w.heap.size + 1 := by simp
  have Hih := keep ih
  have HE := keep hE
  have HW := keep hW
  have HWa := keep hWa
  have Hta := keep hta
  have Hva := keep hva
  have Hga := keep hga
  have Hea := keep hea
  have Hzz := keep hzz
  have Hcv := keep cv
  have Hct := keep ct
  have Hft := keep ft
  clear ih hE hW hWa hta hva hga hea hzz ht hv hal cv ct ft
  have xT := ext_TypeOf
  have xA := ext_Assign
  have mA := methodAssignable
  have nA := noAs
  have hBz1 : B ≤ w.heap.size + 1 := by omega
  go_enter Tryd.func33, Tryd.ntmps33
  go_wp2_with fail
  go_loopg [0] k (fun g v' wx => ∃ v1 a1, v1 = v' ∧ wx = w.alloc (.cells #[.pointer (some ⟨5, 62, none⟩), .pointer (some ⟨vb, 0, none⟩), .int .u64 150] 71) ∧ Keep (IsE W B d g v1 a1) ∧ Keep (a1.first = a.first))
  case atStart => exact ⟨v, a, rfl, rfl, HE, ⟨rfl⟩⟩
  case round =>
    obtain ⟨v1, a1, rfl, rfl, HE1, Hf⟩ := hrel
    have h := HE1.out
    cases h with
    | num d n h0 h1 =>
      have tO := typeOfE
      have aE := assignEE
      have xE := ext_VElem
      have xV := ext_ValueOf
      have xS := ext_Set
      have el := elemVPE ⟨vb, 0, none⟩ ⟨tb, 0, none⟩ _ Hcv.out
      have vE := valueOfE n
      have hb2 : Below (w.heap.size + 1) (w.alloc (.cells #[.pointer (some ⟨5, 62, none⟩), .pointer (some ⟨vb, 0, none⟩), .int .u64 150] 71)) ((w.alloc (.cells #[.pointer (some ⟨5, 62, none⟩), .pointer (some ⟨vb, 0, none⟩), .int .u64 150] 71)).alloc (.cells #[.int .i64 n] 25)) := by
        rw [← Hzz.out]
        exact (Below.refl _ _).alloc (Nat.le_refl _) _
      have ht2 := (hb2.block _ (by rw [Hzz.out] at hlt; exact hlt)).trans Hta.out
      have hn2 := heap_alloc_new (w.alloc (.cells #[.pointer (some ⟨5, 62, none⟩), .pointer (some ⟨vb, 0, none⟩), .int .u64 150] 71)) (.cells #[.int .i64 n] 25)
      rw [Hzz.out] at hn2
      have st := setE ⟨tb, 0, none⟩ ⟨w.heap.size + 1, 0, none⟩ n old _ (cell_of_row _ _ 0 _ _ _ hn2) (cell_of_row _ _ 0 _ _ _ ht2) (frozen_of_row _ _ 0 _ _ ht2)
      have hpost : AsPost tb a.first w (.returned (.bool true)) (((w.alloc (.cells #[.pointer (some ⟨5, 62, none⟩), .pointer (some ⟨vb, 0, none⟩), .int .u64 150] 71)).alloc (.cells #[.int .i64 n] 25)).setCell ⟨tb, 0, none⟩ (.int .i64 n)) := by
        refine ⟨rfl, ?_, World.grownBy.trans (World.grownBy.trans Hga.out (grown_alloc' _ _ _)) (grown_setCell _ tb 0 _)⟩
        rw [heap_setCell_same _ tb 0 _ _ _ ht2, ← Hf.out]
        rfl
      have Hp := keep hpost
      clear hb2 ht2 hn2 hpost
      go_wp2_with fail
      go_ret
      exact Hp.out
    | fault d k' b op nm x a2 hb hr hE2 =>
      have tO := typeOfF
      have aF := assignFE
      have uF := unwF
      have mU := methUF
      have hun := unwrapF_any b op nm x _ ((HWa.out.block _ hb).trans hr)
      obtain ⟨T2, x2, hx2⟩ := hE2.iface
      have HE2 := keep hE2
      have Hun := keep hun
      subst hx2
      have hnil := ifaceNil T2 x2
      clear hE2 hun hr
      go_wp2_with fail
      refine Hun.out.mono ?_
      rintro e w3 ⟨rfl, hw3⟩
      rw [hw3]
      clear hw3
      go_wp2_with fail
      go_roundg k'
      case measure => omega
      case rel => exact ⟨_, a2, rfl, rfl, HE2, ⟨Hf.out⟩⟩
    | joined d b r o len c ks xs es hb hrb hr hl hlc hm hc hE2 =>
      have tO := typeOfJ
      have aJ := assignJE
      have uJ := unwJ
      have uL := unlJ
      have mU := methUJ
      have hun := unwrapJ_any b r o len c xs _ ((HWa.out.block _ hb).trans hr) hl hm (fun i hi => (HWa.out.cell (p := ⟨r, o + i, none⟩) hrb).trans (hc i hi)) (fun i hi => iface_one (hE2 i hi))
      have Hun := keep hun
      have HE2 := keep hE2
      clear hE2 hun hr hc
      go_wp2_with fail
      refine Hun.out.mono ?_
      rintro e w3 ⟨r3, c3, rfl, hc3, hr3, hB3⟩
      have hx0 := hc3 0 hl
      obtain ⟨T2, x2, hx2⟩ := (HE2.out 0 hl).iface
      have hnil := ifaceNil T2 x2
      have hbox : w3.heap[w.heap.size]? = some (.cells #[.pointer (some ⟨5, 62, none⟩), .pointer (some ⟨vb, 0, none⟩), .int .u64 150] 71 (0, 0)) := (hB3.block _ (by rw [Hzz.out]; omega)).trans (heap_alloc_new w _)
      have b0 := cell_of_row _ _ 0 _ _ _ hbox
      have b1 := cell_of_row _ _ 1 _ _ _ hbox
      have b2 := cell_of_row _ _ 2 _ _ _ hbox
      have hlb := row_lt hbox
      have hpos : (0 : Int) < (len : Int) := by omega
      have ht3 := (hB3.block _ hlt).trans Hta.out
      have hv3 := (hB3.block _ hlv).trans Hva.out
      have hrec := Hih.out d (Nat.lt_succ_self d) (ks 0) (xs 0) (es 0) (HE2.out 0 hl) w3 tb vb old (HWa.out.trans (hB3.mono (by rw [Hzz.out]; omega))) (Nat.le_trans (by rw [Hzz.out]; omega) hB3.size) hBt ht3 hv3
      have hg3 : w.grownBy w3 (some tb) := World.grownBy.trans Hga.out (below_grownBy hB3 _)
      rw [hx2] at hx0 hrec
      have Hrec := keep hrec
      have Hg3 := keep hg3
      clear hbox hc3 hB3 ht3 hv3 hrec hg3 hx2
      go_wp2_with fail
      refine wp_loop_rounds 1 ?_
      rw [rounds_succ]
      go_wp2_with fail
      refine Hrec.out.mono ?_
      rintro e w4 ⟨rfl, h4, hg4⟩
      have hp : AsPost tb a.first w (.returned (.bool true)) w4 := ⟨rfl, by rw [← Hf.out]; exact h4, World.grownBy.trans Hg3.out hg4⟩
      have Hp := keep hp
      clear hp h4 hg4
      go_wp2_with fail
      go_ret
      exact Hp.out
end Go.Proofs.YthamnnhpagllcaaDoor
