/- A reply is taken. -/
import Derived.Test.YtmfgcdfemhaieaaFetI
namespace Go.Proofs.Ytmfgcdfemhaieaa
open Go.RowKit

theorem own_cells {W : World} {g : Nat} {e : TypeId} {v : Value} {xs : List Int} (h : OwnB W g e .u8 v xs) : v.cells = #[v] ∧ v.oneCell' = true := by
  obtain ⟨A, c, rfl, _, _⟩ := h.slice
  exact ⟨rfl, rfl⟩
theorem ask_st {g : Nat} {sum : List Int} {size : Int} {bytes : List Int} {fa sp : Int} (w : World) (h : St w g sum size bytes fa sp false false) (hn : bytes.length ≤ 1099511627776) (hs : size ≤ 1099511627776) :
    Calls Try.prog 10 #[.pointer (some ⟨g, 0, none⟩)] w (AskPost (askL bytes.length (min 64 (max size 0 - bytes.length))) true w) := by
  obtain ⟨v, hF, hO⟩ := h.st
  obtain ⟨A, c, rfl, _, _⟩ := hO.slice
  exact ask_any w hF hn hs
set_option maxRecDepth 100000 in
set_option maxHeartbeats 2000000 in
theorem take_lost {g : Nat} {sum : List Int} {size : Int} {bytes : List Int} {fa sp : Int} (w : World) (h : St w g sum size bytes fa sp false false) (hn : bytes.length ≤ 1099511627776) (hs : size ≤ 1099511627776) (hfa : 0 ≤ fa) (hfa3 : fa < 3) (Ab : Option Addr) (m cb : Nat) :
    Calls Try.prog 12 #[.pointer (some ⟨g, 0, none⟩), .agg #[.int .i64 1, .slice Ab m cb]] w (FullPost g sum size bytes (fa + 1) sp false false w) := by
  have hb0 : Below w.heap.size w (w.alloc (.cells #[.int .i64 1, .slice Ab m cb] 42)) := (Below.refl _ _).alloc (Nat.le_refl _) _
  have h1 := h.below hb0 (Nat.le_refl _)
  have ha := ask_st _ h1 hn hs
  have hr0 := heap_alloc_new w (.cells #[.int .i64 1, .slice Ab m cb] 42)
  have hg := h.lt
  have H := keep h
  clear h
  go_enter Try.func12, Try.ntmps12
  go_wp2_with fail
  refine ha.mono ?_
  rintro e w1 ⟨rfl, hB1⟩
  have h2 := h1.below hB1 (Nat.le_refl _)
  have hr1 := (hB1.block _ (row_lt hr0)).trans hr0
  have hb1 := hb0.trans (hB1.mono hb0.size)
  clear h1 ha hr0 hb0 hB1
  unfold askL
  have hk : w1.cell? ⟨w.heap.size, 0, none⟩ = some (.int .i64 1) := cell_of_row _ _ 0 _ _ _ hr1
  have hlt1 := row_lt hr1
  obtain ⟨v, hF, hO⟩ := h2.st
  have hc := hF.fa_
  have hf := hF.free 40
  have hgl := hF.lt
  have HF := keep hF
  have HO := keep hO
  clear hF hO h2 hr1
  have t0 : (fa + 1 == 4) = false := by simp; omega
  go_wp2_with fail
  go_ret
  have hF2 : Fet (w1.setCell ⟨g, 40, none⟩ (.int .i64 (fa + 1))) g sum size v (fa + 1) sp false false := HF.out.set_fa _
  have hO2 := HO.out.grown (grown_setCell w1 g 40 (.int .i64 (fa + 1))) (own_neB HO.out)
  have hb2 : Below g w (w1.setCell ⟨g, 40, none⟩ (.int .i64 (fa + 1))) := (hb1.mono (Nat.le_of_lt hg)).setCell (Nat.le_refl _) _
  have hk2 : KeptT g w (w1.setCell ⟨g, 40, none⟩ (.int .i64 (fa + 1))) := (KeptT.below hb1).cell 40 _
  generalize w1.setCell ⟨g, 40, none⟩ (.int .i64 (fa + 1)) = w2 at hF2 hO2 hb2 hk2 ⊢
  have hal : ∀ o, Below w2.heap.size w2 (w2.alloc o) := fun o => (Below.refl _ _).alloc (Nat.le_refl _) o
  exact ⟨rfl, ⟨⟨v, hF2.below (hal _) hF2.lt, hO2.below (hal _)⟩⟩, hb2.trans ((hal _).mono (Nat.le_of_lt hF2.lt)), hk2.trans (KeptT.below (hal _))⟩
set_option maxRecDepth 100000 in
set_option maxHeartbeats 2000000 in
theorem take_full {g : Nat} {sum : List Int} {size : Int} {bytes : List Int} {fa sp : Int} {dn : Bool} (w : World) (h : St w g sum size bytes fa sp false false) (hn : bytes.length ≤ 1099511627776) (hs : size ≤ 1099511627776) (Ab : Option Addr) (m cb : Nat) (ys : List Int) (HR : RdI w w.heap.size .u8 Ab ys) (hm : ys.length = m) (hcb : m ≤ cb)
    (N : Nat) (hN : min 64 (max size 0 - (bytes.length : Int)) = N) (hle : N ≤ m)
    (hd : (dn = false ∧ ((bytes ++ ys.take N).length : Int) < max size 0) ∨ (dn = true ∧ ((bytes ++ ys.take N).length : Int) = max size 0 ∧ sumP (bytes ++ ys.take N) = sum)) :
    Calls Try.prog 12 #[.pointer (some ⟨g, 0, none⟩), .agg #[.int .i64 0, .slice Ab m cb]] w (FullPost g sum size (bytes ++ ys.take N) 0 sp dn false w) := by
  have hb0 : Below w.heap.size w (w.alloc (.cells #[.int .i64 0, .slice Ab m cb] 42)) := (Below.refl _ _).alloc (Nat.le_refl _) _
  have h1 := h.below hb0 (Nat.le_refl _)
  have ha := ask_st _ h1 hn hs
  rw [hN] at ha
  have hr0 := heap_alloc_new w (.cells #[.int .i64 0, .slice Ab m cb] 42)
  have hg := h.lt
  have hcut := cut_head (P := Try.prog) 23 5 Try.underlying23 (by kernel_rfl) Ab m cb (N : Int) (by omega) (by omega)
  rw [Int.toNat_natCast] at hcut
  have HN := keep hN
  have Hm := keep hm
  have Hd := keep hd
  have HRk := keep HR
  clear h hN hm hd HR
  go_enter Try.func12, Try.ntmps12
  go_wp2_with fail
  refine ha.mono ?_
  rintro e w1 ⟨rfl, hB1⟩
  have h2 := h1.below hB1 (Nat.le_refl _)
  have hr1 := (hB1.block _ (row_lt hr0)).trans hr0
  have hb1 := hb0.trans (hB1.mono hb0.size)
  clear h1 ha hr0 hb0 hB1
  unfold askL
  have hk : w1.cell? ⟨w.heap.size, 0, none⟩ = some (.int .i64 0) := cell_of_row _ _ 0 _ _ _ hr1
  have hk1 : w1.cell? ⟨w.heap.size, 1, none⟩ = some (.slice Ab m cb) := cell_of_row _ _ 1 _ _ _ hr1
  have hlt1 := row_lt hr1
  have H2 := keep h2
  clear h2 hr1
  have t0 : decide ((N : Int) ≤ (m : Int)) = true := by simp; omega
  go_wp2_with fail
  have hal : ∀ o, Below w1.heap.size w1 (w1.alloc o) := fun o => (Below.refl _ _).alloc (Nat.le_refl _) o
  have h3 := H2.out.below (hal (.cells #[.string ⟨#[97]⟩, .int .i64 1, .int .i64 0, .int .i64 0, .slice none 0 0, .int .i64 bytes.length, .int .i64 N] 38)) (Nat.le_refl _)
  have hb3 := hb1.trans ((hal (.cells #[.string ⟨#[97]⟩, .int .i64 1, .int .i64 0, .int .i64 0, .slice none 0 0, .int .i64 bytes.length, .int .i64 N] 38)).mono hb1.size)
  generalize w1.alloc (.cells #[.string ⟨#[97]⟩, .int .i64 1, .int .i64 0, .int .i64 0, .slice none 0 0, .int .i64 bytes.length, .int .i64 N] 38) = w3 at h3 hb3 ⊢
  have hy : (ys.take N).length = N := by rw [List.length_take, Hm.out]; omega
  have hR3 : RdI w3 w.heap.size .u8 Ab (ys.take N) := (HRk.out.below hb3).take_ N
  have hfull : Calls Try.prog 28 #[.pointer (some ⟨g, 0, none⟩), .slice Ab N cb] w3 (FullPost g sum size (bytes ++ ys.take N) 0 sp dn false w3) := by
    rcases Hd.out with ⟨rfl, hd⟩ | ⟨rfl, hd⟩
    · exact full_less w3 h3 Ab N cb (ys.take N) w.heap.size hR3 hy (by have := HN.out; omega) hd
    · exact full_done w3 h3 Ab N cb (ys.take N) w.heap.size hR3 hy (by have := HN.out; omega) hd
  clear hcut
  refine hfull.mono ?_
  rintro e w4 ⟨rfl, hS4, hB4, hK4⟩
  have HS4 := keep hS4
  clear hS4
  go_wp2
  go_ret
  exact ⟨rfl, HS4.out, (hb3.mono (Nat.le_of_lt hg)).trans hB4, (KeptT.below hb3).trans hK4⟩
set_option maxRecDepth 100000 in
set_option maxHeartbeats 2000000 in
theorem take_short {g : Nat} {sum : List Int} {size : Int} {bytes : List Int} {fa sp : Int} (w : World) (h : St w g sum size bytes fa sp false false) (hn : bytes.length ≤ 1099511627776) (hs : size ≤ 1099511627776) (hfa : 0 ≤ fa) (hfa3 : fa < 3) (Ab : Option Addr) (m cb : Nat) (ys : List Int) (HR : RdI w w.heap.size .u8 Ab ys) (hm : ys.length = m)
    (N : Nat) (hN : min 64 (max size 0 - (bytes.length : Int)) = N) (hle : m < N) :
    Calls Try.prog 12 #[.pointer (some ⟨g, 0, none⟩), .agg #[.int .i64 0, .slice Ab m cb]] w (FullPost g sum size (bytes ++ ys) (fa + 1) sp false false w) := by
  have hb0 : Below w.heap.size w (w.alloc (.cells #[.int .i64 0, .slice Ab m cb] 42)) := (Below.refl _ _).alloc (Nat.le_refl _) _
  have h1 := h.below hb0 (Nat.le_refl _)
  have ha := ask_st _ h1 hn hs
  rw [hN] at ha
  have hr0 := heap_alloc_new w (.cells #[.int .i64 0, .slice Ab m cb] 42)
  have hg := h.lt
  have HN := keep hN
  have Hm := keep hm
  have HRk := keep HR
  clear h hN hm HR
  go_enter Try.func12, Try.ntmps12
  go_wp2_with fail
  refine ha.mono ?_
  rintro e w1 ⟨rfl, hB1⟩
  have h2 := h1.below hB1 (Nat.le_refl _)
  have hr1 := (hB1.block _ (row_lt hr0)).trans hr0
  have hb1 := hb0.trans (hB1.mono hb0.size)
  clear h1 ha hr0 hb0 hB1
  unfold askL
  have hk : w1.cell? ⟨w.heap.size, 0, none⟩ = some (.int .i64 0) := cell_of_row _ _ 0 _ _ _ hr1
  have hk1 : w1.cell? ⟨w.heap.size, 1, none⟩ = some (.slice Ab m cb) := cell_of_row _ _ 1 _ _ _ hr1
  have hlt1 := row_lt hr1
  have H2 := keep h2
  have Hr1 := keep hr1
  clear h2 hr1
  have t0 : decide ((N : Int) ≤ (m : Int)) = false := by simp; omega
  go_wp2_with fail
  have hal : ∀ o, Below w1.heap.size w1 (w1.alloc o) := fun o => (Below.refl _ _).alloc (Nat.le_refl _) o
  have h3 := H2.out.below (hal (.cells #[.string ⟨#[97]⟩, .int .i64 1, .int .i64 0, .int .i64 0, .slice none 0 0, .int .i64 bytes.length, .int .i64 N] 38)) (Nat.le_refl _)
  have hb3 := hb1.trans ((hal (.cells #[.string ⟨#[97]⟩, .int .i64 1, .int .i64 0, .int .i64 0, .slice none 0 0, .int .i64 bytes.length, .int .i64 N] 38)).mono hb1.size)
  have hr3 : (w1.alloc (.cells #[.string ⟨#[97]⟩, .int .i64 1, .int .i64 0, .int .i64 0, .slice none 0 0, .int .i64 bytes.length, .int .i64 N] 38)).heap[w.heap.size]? = some (.cells #[.int .i64 0, .slice Ab m cb] 42 (0, 0)) := by rw [Below.heap_alloc _ _ _ hlt1]; exact Hr1.out
  obtain ⟨ab, hab⟩ : ∃ ab, w1.heap.size = ab := ⟨_, rfl⟩
  generalize w1.alloc (.cells #[.string ⟨#[97]⟩, .int .i64 1, .int .i64 0, .int .i64 0, .slice none 0 0, .int .i64 bytes.length, .int .i64 N] 38) = w3 at h3 hb3 hr3 ⊢
  rw [hab]
  clear hal hk hk1 hab
  --[REG
  obtain ⟨v, hF3, hO3⟩ := h3.st
  have HF3 := keep hF3
  have HO3 := keep hO3
  have Hk3 : Keep (w3.drew.cell? ⟨w.heap.size, 1, none⟩ = some (.slice Ab m cb)) := ⟨cell_of_row w3 _ 1 _ _ _ hr3⟩
  have HR3 : Keep (RdI w3 w.heap.size .u8 Ab ys) := ⟨HRk.out.below hb3⟩
  clear h3 hF3 hO3 hr3
  refine rg_then (fun a' W => ∃ v4 w4, OwnB w4 (g + 1) 5 .u8 v4 (bytes ++ ys) ∧ Below (g + 1) w3.drew w4 ∧ Fet w4 g sum size v fa sp false false ∧ KeptT g w3.drew w4 ∧ W = w4.setCell ⟨g, 39, none⟩ v4 ∧ a' = { tmps := #[.pointer (some ⟨g, 0, none⟩), .agg #[.int .i64 0, .slice Ab m cb], undef, .pointer (some ⟨w.heap.size, 0, none⟩), .nilIface, .pointer (some ⟨ab, 0, none⟩), .bool true, .tuple #[.agg #[.string ⟨#[97]⟩, .int .i64 1, .int .i64 0, .int .i64 0, .slice none 0 0, .int .i64 bytes.length, .int .i64 N], .bool true], .pointer (some ⟨g, 0, none⟩), .tuple #[.agg #[.string ⟨#[97]⟩, .int .i64 1, .int .i64 0, .int .i64 0, .slice none 0 0, .int .i64 bytes.length, .int .i64 N], .bool true], .agg #[.string ⟨#[97]⟩, .int .i64 1, .int .i64 0, .int .i64 0, .slice none 0 0, .int .i64 bytes.length, .int .i64 N], .bool true, .bool true, .bool false, .pointer (some ⟨w.heap.size, 0, none⟩), .int .i64 0, .bool false, .bool false, .bool true, .bool true, undef, undef, .pointer (some ⟨w.heap.size, 1, none⟩), .slice Ab m cb, .int .i64 (m : Int), .pointer (some ⟨ab, 6, none⟩), .int .i64 (N : Int), .bool (decide (N ≤ m)), undef, undef, undef, undef, undef, undef, undef, .pointer (some ⟨g, 0, none⟩), .pointer (some ⟨g, 0, none⟩), .pointer (some ⟨g, 0, none⟩), .pointer (some ⟨g, 39, none⟩), v, .pointer (some ⟨w.heap.size, 1, none⟩), .slice Ab m cb, v4, .pointer (some ⟨g, 0, none⟩), .pointer (some ⟨g, 39, none⟩), undef, undef, undef, undef, undef, undef, undef, undef, undef, undef, undef, undef, undef, undef], defers := [] }) ?_ ?_
  · refine rg_start (fun _ => True) (by kernel_rfl) True.intro (fun _ => ?_)
    refine rg_pure 0 (oi := { dst := some 35, op := Op.move (Operand.tmp 0), type := 35, pos := "fetch.go:87", after := #[], guard := none }) (.pointer (some ⟨g, 0, none⟩)) ({ tmps := #[.pointer (some ⟨g, 0, none⟩), .agg #[.int .i64 0, .slice Ab m cb], undef, .pointer (some ⟨w.heap.size, 0, none⟩), .nilIface, .pointer (some ⟨ab, 0, none⟩), .bool true, .tuple #[.agg #[.string ⟨#[97]⟩, .int .i64 1, .int .i64 0, .int .i64 0, .slice none 0 0, .int .i64 bytes.length, .int .i64 N], .bool true], .pointer (some ⟨g, 0, none⟩), .tuple #[.agg #[.string ⟨#[97]⟩, .int .i64 1, .int .i64 0, .int .i64 0, .slice none 0 0, .int .i64 bytes.length, .int .i64 N], .bool true], .agg #[.string ⟨#[97]⟩, .int .i64 1, .int .i64 0, .int .i64 0, .slice none 0 0, .int .i64 bytes.length, .int .i64 N], .bool true, .bool true, .bool false, .pointer (some ⟨w.heap.size, 0, none⟩), .int .i64 0, .bool false, .bool false, .bool true, .bool true, undef, undef, .pointer (some ⟨w.heap.size, 1, none⟩), .slice Ab m cb, .int .i64 (m : Int), .pointer (some ⟨ab, 6, none⟩), .int .i64 (N : Int), .bool (decide (N ≤ m)), undef, undef, undef, undef, undef, undef, undef, .pointer (some ⟨g, 0, none⟩), undef, undef, undef, undef, undef, undef, undef, undef, undef, undef, undef, undef, undef, undef, undef, undef, undef, undef, undef, undef, undef, undef, undef], defers := [] }) rfl (by kernel_rfl) (by kernel_rfl) (by kernel_rfl) (by kernel_rfl) (fun _ => by kernel_rfl) (by kernel_rfl) True.intro ?_
    refine rg_pure 1 (oi := { dst := some 36, op := Op.move (Operand.tmp 0), type := 35, pos := "fetch.go:87", after := #[], guard := none }) (.pointer (some ⟨g, 0, none⟩)) ({ tmps := #[.pointer (some ⟨g, 0, none⟩), .agg #[.int .i64 0, .slice Ab m cb], undef, .pointer (some ⟨w.heap.size, 0, none⟩), .nilIface, .pointer (some ⟨ab, 0, none⟩), .bool true, .tuple #[.agg #[.string ⟨#[97]⟩, .int .i64 1, .int .i64 0, .int .i64 0, .slice none 0 0, .int .i64 bytes.length, .int .i64 N], .bool true], .pointer (some ⟨g, 0, none⟩), .tuple #[.agg #[.string ⟨#[97]⟩, .int .i64 1, .int .i64 0, .int .i64 0, .slice none 0 0, .int .i64 bytes.length, .int .i64 N], .bool true], .agg #[.string ⟨#[97]⟩, .int .i64 1, .int .i64 0, .int .i64 0, .slice none 0 0, .int .i64 bytes.length, .int .i64 N], .bool true, .bool true, .bool false, .pointer (some ⟨w.heap.size, 0, none⟩), .int .i64 0, .bool false, .bool false, .bool true, .bool true, undef, undef, .pointer (some ⟨w.heap.size, 1, none⟩), .slice Ab m cb, .int .i64 (m : Int), .pointer (some ⟨ab, 6, none⟩), .int .i64 (N : Int), .bool (decide (N ≤ m)), undef, undef, undef, undef, undef, undef, undef, .pointer (some ⟨g, 0, none⟩), .pointer (some ⟨g, 0, none⟩), undef, undef, undef, undef, undef, undef, undef, undef, undef, undef, undef, undef, undef, undef, undef, undef, undef, undef, undef, undef, undef, undef], defers := [] }) rfl (by kernel_rfl) (by kernel_rfl) (by kernel_rfl) (by kernel_rfl) (fun _ => by kernel_rfl) (by kernel_rfl) True.intro ?_
    refine rg_pure 2 (oi := { dst := some 37, op := Op.nilCheck (Operand.tmp 36), type := 0, pos := "fetch.go:87", after := #[{ on := 1, ground := Ground.data }], guard := none }) (.pointer (some ⟨g, 0, none⟩)) ({ tmps := #[.pointer (some ⟨g, 0, none⟩), .agg #[.int .i64 0, .slice Ab m cb], undef, .pointer (some ⟨w.heap.size, 0, none⟩), .nilIface, .pointer (some ⟨ab, 0, none⟩), .bool true, .tuple #[.agg #[.string ⟨#[97]⟩, .int .i64 1, .int .i64 0, .int .i64 0, .slice none 0 0, .int .i64 bytes.length, .int .i64 N], .bool true], .pointer (some ⟨g, 0, none⟩), .tuple #[.agg #[.string ⟨#[97]⟩, .int .i64 1, .int .i64 0, .int .i64 0, .slice none 0 0, .int .i64 bytes.length, .int .i64 N], .bool true], .agg #[.string ⟨#[97]⟩, .int .i64 1, .int .i64 0, .int .i64 0, .slice none 0 0, .int .i64 bytes.length, .int .i64 N], .bool true, .bool true, .bool false, .pointer (some ⟨w.heap.size, 0, none⟩), .int .i64 0, .bool false, .bool false, .bool true, .bool true, undef, undef, .pointer (some ⟨w.heap.size, 1, none⟩), .slice Ab m cb, .int .i64 (m : Int), .pointer (some ⟨ab, 6, none⟩), .int .i64 (N : Int), .bool (decide (N ≤ m)), undef, undef, undef, undef, undef, undef, undef, .pointer (some ⟨g, 0, none⟩), .pointer (some ⟨g, 0, none⟩), .pointer (some ⟨g, 0, none⟩), undef, undef, undef, undef, undef, undef, undef, undef, undef, undef, undef, undef, undef, undef, undef, undef, undef, undef, undef, undef, undef], defers := [] }) rfl (by kernel_rfl) (by kernel_rfl) (by kernel_rfl) (by kernel_rfl) (fun _ => by kernel_rfl) (by kernel_rfl) True.intro ?_
    refine rg_pure 3 (oi := { dst := some 38, op := Op.fieldAddr 70 (Operand.tmp 37) 1, type := 0, pos := "fetch.go:87", after := #[{ on := 2, ground := Ground.data }], guard := none }) (.pointer (some ⟨g, 39, none⟩)) ({ tmps := #[.pointer (some ⟨g, 0, none⟩), .agg #[.int .i64 0, .slice Ab m cb], undef, .pointer (some ⟨w.heap.size, 0, none⟩), .nilIface, .pointer (some ⟨ab, 0, none⟩), .bool true, .tuple #[.agg #[.string ⟨#[97]⟩, .int .i64 1, .int .i64 0, .int .i64 0, .slice none 0 0, .int .i64 bytes.length, .int .i64 N], .bool true], .pointer (some ⟨g, 0, none⟩), .tuple #[.agg #[.string ⟨#[97]⟩, .int .i64 1, .int .i64 0, .int .i64 0, .slice none 0 0, .int .i64 bytes.length, .int .i64 N], .bool true], .agg #[.string ⟨#[97]⟩, .int .i64 1, .int .i64 0, .int .i64 0, .slice none 0 0, .int .i64 bytes.length, .int .i64 N], .bool true, .bool true, .bool false, .pointer (some ⟨w.heap.size, 0, none⟩), .int .i64 0, .bool false, .bool false, .bool true, .bool true, undef, undef, .pointer (some ⟨w.heap.size, 1, none⟩), .slice Ab m cb, .int .i64 (m : Int), .pointer (some ⟨ab, 6, none⟩), .int .i64 (N : Int), .bool (decide (N ≤ m)), undef, undef, undef, undef, undef, undef, undef, .pointer (some ⟨g, 0, none⟩), .pointer (some ⟨g, 0, none⟩), .pointer (some ⟨g, 0, none⟩), .pointer (some ⟨g, 39, none⟩), undef, undef, undef, undef, undef, undef, undef, undef, undef, undef, undef, undef, undef, undef, undef, undef, undef, undef, undef, undef], defers := [] }) rfl (by kernel_rfl) (by kernel_rfl) (by kernel_rfl) (by kernel_rfl) (fun _ => by kernel_rfl) (by kernel_rfl) True.intro ?_
    refine rg_pure 5 (oi := { dst := some 40, op := Op.fieldAddr 42 (Operand.tmp 3) 1, type := 0, pos := "fetch.go:87", after := #[], guard := none }) (.pointer (some ⟨w.heap.size, 1, none⟩)) ({ tmps := #[.pointer (some ⟨g, 0, none⟩), .agg #[.int .i64 0, .slice Ab m cb], undef, .pointer (some ⟨w.heap.size, 0, none⟩), .nilIface, .pointer (some ⟨ab, 0, none⟩), .bool true, .tuple #[.agg #[.string ⟨#[97]⟩, .int .i64 1, .int .i64 0, .int .i64 0, .slice none 0 0, .int .i64 bytes.length, .int .i64 N], .bool true], .pointer (some ⟨g, 0, none⟩), .tuple #[.agg #[.string ⟨#[97]⟩, .int .i64 1, .int .i64 0, .int .i64 0, .slice none 0 0, .int .i64 bytes.length, .int .i64 N], .bool true], .agg #[.string ⟨#[97]⟩, .int .i64 1, .int .i64 0, .int .i64 0, .slice none 0 0, .int .i64 bytes.length, .int .i64 N], .bool true, .bool true, .bool false, .pointer (some ⟨w.heap.size, 0, none⟩), .int .i64 0, .bool false, .bool false, .bool true, .bool true, undef, undef, .pointer (some ⟨w.heap.size, 1, none⟩), .slice Ab m cb, .int .i64 (m : Int), .pointer (some ⟨ab, 6, none⟩), .int .i64 (N : Int), .bool (decide (N ≤ m)), undef, undef, undef, undef, undef, undef, undef, .pointer (some ⟨g, 0, none⟩), .pointer (some ⟨g, 0, none⟩), .pointer (some ⟨g, 0, none⟩), .pointer (some ⟨g, 39, none⟩), undef, .pointer (some ⟨w.heap.size, 1, none⟩), undef, undef, undef, undef, undef, undef, undef, undef, undef, undef, undef, undef, undef, undef, undef, undef, undef, undef], defers := [] }) rfl (by kernel_rfl) (by kernel_rfl) (by kernel_rfl) (by kernel_rfl) (fun _ => by kernel_rfl) (by kernel_rfl) True.intro ?_
    refine rg_two 4 6 (oi := { dst := some 39, op := Op.load 23 (Operand.tmp 38), type := 23, pos := "fetch.go:87", after := #[{ on := 3, ground := Ground.data }], guard := none }) (oj := { dst := some 41, op := Op.load 23 (Operand.tmp 40), type := 23, pos := "fetch.go:87", after := #[{ on := 5, ground := Ground.data }], guard := none }) (by kernel_rfl) rfl (by kernel_rfl) rfl (by kernel_rfl) ?_ ?_
    · refine op_ok (v := v) (w' := w3.drew) ({ tmps := #[.pointer (some ⟨g, 0, none⟩), .agg #[.int .i64 0, .slice Ab m cb], undef, .pointer (some ⟨w.heap.size, 0, none⟩), .nilIface, .pointer (some ⟨ab, 0, none⟩), .bool true, .tuple #[.agg #[.string ⟨#[97]⟩, .int .i64 1, .int .i64 0, .int .i64 0, .slice none 0 0, .int .i64 bytes.length, .int .i64 N], .bool true], .pointer (some ⟨g, 0, none⟩), .tuple #[.agg #[.string ⟨#[97]⟩, .int .i64 1, .int .i64 0, .int .i64 0, .slice none 0 0, .int .i64 bytes.length, .int .i64 N], .bool true], .agg #[.string ⟨#[97]⟩, .int .i64 1, .int .i64 0, .int .i64 0, .slice none 0 0, .int .i64 bytes.length, .int .i64 N], .bool true, .bool true, .bool false, .pointer (some ⟨w.heap.size, 0, none⟩), .int .i64 0, .bool false, .bool false, .bool true, .bool true, undef, undef, .pointer (some ⟨w.heap.size, 1, none⟩), .slice Ab m cb, .int .i64 (m : Int), .pointer (some ⟨ab, 6, none⟩), .int .i64 (N : Int), .bool (decide (N ≤ m)), undef, undef, undef, undef, undef, undef, undef, .pointer (some ⟨g, 0, none⟩), .pointer (some ⟨g, 0, none⟩), .pointer (some ⟨g, 0, none⟩), .pointer (some ⟨g, 39, none⟩), v, .pointer (some ⟨w.heap.size, 1, none⟩), undef, undef, undef, undef, undef, undef, undef, undef, undef, undef, undef, undef, undef, undef, undef, undef, undef, undef], defers := [] }) (ex_load1 _ _ 23 (.tmp 38) rfl ⟨g, 39, none⟩ (by kernel_rfl) _ (by kernel_rfl) _ HF3.out.b) (by kernel_rfl) ⟨True.intro, ?_⟩
      refine rg_one 6 (oi := { dst := some 41, op := Op.load 23 (Operand.tmp 40), type := 23, pos := "fetch.go:87", after := #[{ on := 5, ground := Ground.data }], guard := none }) (by kernel_rfl) rfl (by kernel_rfl) ?_
      refine op_ok (v := .slice Ab m cb) (w' := w3.drew) ({ tmps := #[.pointer (some ⟨g, 0, none⟩), .agg #[.int .i64 0, .slice Ab m cb], undef, .pointer (some ⟨w.heap.size, 0, none⟩), .nilIface, .pointer (some ⟨ab, 0, none⟩), .bool true, .tuple #[.agg #[.string ⟨#[97]⟩, .int .i64 1, .int .i64 0, .int .i64 0, .slice none 0 0, .int .i64 bytes.length, .int .i64 N], .bool true], .pointer (some ⟨g, 0, none⟩), .tuple #[.agg #[.string ⟨#[97]⟩, .int .i64 1, .int .i64 0, .int .i64 0, .slice none 0 0, .int .i64 bytes.length, .int .i64 N], .bool true], .agg #[.string ⟨#[97]⟩, .int .i64 1, .int .i64 0, .int .i64 0, .slice none 0 0, .int .i64 bytes.length, .int .i64 N], .bool true, .bool true, .bool false, .pointer (some ⟨w.heap.size, 0, none⟩), .int .i64 0, .bool false, .bool false, .bool true, .bool true, undef, undef, .pointer (some ⟨w.heap.size, 1, none⟩), .slice Ab m cb, .int .i64 (m : Int), .pointer (some ⟨ab, 6, none⟩), .int .i64 (N : Int), .bool (decide (N ≤ m)), undef, undef, undef, undef, undef, undef, undef, .pointer (some ⟨g, 0, none⟩), .pointer (some ⟨g, 0, none⟩), .pointer (some ⟨g, 0, none⟩), .pointer (some ⟨g, 39, none⟩), v, .pointer (some ⟨w.heap.size, 1, none⟩), .slice Ab m cb, undef, undef, undef, undef, undef, undef, undef, undef, undef, undef, undef, undef, undef, undef, undef, undef, undef], defers := [] }) (ex_load1 _ _ 23 (.tmp 40) rfl ⟨w.heap.size, 1, none⟩ (by kernel_rfl) _ (by kernel_rfl) _ Hk3.out) (by kernel_rfl) ⟨True.intro, ?_⟩
      refine rg_one 7 (oi := { dst := some 42, op := Op.call { callee := Callee.builtin Builtin.append, args := #[Operand.tmp 39, Operand.tmp 41], argTypes := #[23, 23] }, type := 23, pos := "fetch.go:87", after := #[{ on := 4, ground := Ground.data }, { on := 6, ground := Ground.data }], guard := none }) (by kernel_rfl) rfl (by kernel_rfl) ?_
      with_reducible refine op_append_intsB (w0 := w3.drew) (W := w3.drew) (g + 1) (.tmp 39) (.tmp 41) 23 5 .u8 1 ?_ Try.underlying23 info5 v bytes ys w.heap.size Ab m cb ?_ ?_ Hm.out HO3.out.drew HR3.out.drew (Below.refl _ _) ?_ ?_ ?_ ?_
      · rfl
      · kernel_rfl
      · kernel_rfl
      · exact HF3.out.lt
      · omega
      · have := HN.out; omega
      rintro v4 w4 hO4 hB4 hg4 _
      have hK4 : KeptT g w3.drew w4 := KeptT.ownB HO3.out.drew hg4
      refine ⟨True.intro, ?_⟩
      show wpAnyH _ _ _ _ _ _ _ ({ tmps := #[.pointer (some ⟨g, 0, none⟩), .agg #[.int .i64 0, .slice Ab m cb], undef, .pointer (some ⟨w.heap.size, 0, none⟩), .nilIface, .pointer (some ⟨ab, 0, none⟩), .bool true, .tuple #[.agg #[.string ⟨#[97]⟩, .int .i64 1, .int .i64 0, .int .i64 0, .slice none 0 0, .int .i64 bytes.length, .int .i64 N], .bool true], .pointer (some ⟨g, 0, none⟩), .tuple #[.agg #[.string ⟨#[97]⟩, .int .i64 1, .int .i64 0, .int .i64 0, .slice none 0 0, .int .i64 bytes.length, .int .i64 N], .bool true], .agg #[.string ⟨#[97]⟩, .int .i64 1, .int .i64 0, .int .i64 0, .slice none 0 0, .int .i64 bytes.length, .int .i64 N], .bool true, .bool true, .bool false, .pointer (some ⟨w.heap.size, 0, none⟩), .int .i64 0, .bool false, .bool false, .bool true, .bool true, undef, undef, .pointer (some ⟨w.heap.size, 1, none⟩), .slice Ab m cb, .int .i64 (m : Int), .pointer (some ⟨ab, 6, none⟩), .int .i64 (N : Int), .bool (decide (N ≤ m)), undef, undef, undef, undef, undef, undef, undef, .pointer (some ⟨g, 0, none⟩), .pointer (some ⟨g, 0, none⟩), .pointer (some ⟨g, 0, none⟩), .pointer (some ⟨g, 39, none⟩), v, .pointer (some ⟨w.heap.size, 1, none⟩), .slice Ab m cb, v4, undef, undef, undef, undef, undef, undef, undef, undef, undef, undef, undef, undef, undef, undef, undef, undef], defers := [] }) w4
      refine rg_pure 8 (oi := { dst := some 43, op := Op.nilCheck (Operand.tmp 35), type := 0, pos := "fetch.go:87", after := #[{ on := 0, ground := Ground.data }, { on := 0, ground := Ground.phase }, { on := 1, ground := Ground.phase }, { on := 2, ground := Ground.phase }, { on := 3, ground := Ground.phase }, { on := 4, ground := Ground.phase }, { on := 5, ground := Ground.phase }, { on := 6, ground := Ground.phase }, { on := 7, ground := Ground.phase }], guard := none }) (.pointer (some ⟨g, 0, none⟩)) ({ tmps := #[.pointer (some ⟨g, 0, none⟩), .agg #[.int .i64 0, .slice Ab m cb], undef, .pointer (some ⟨w.heap.size, 0, none⟩), .nilIface, .pointer (some ⟨ab, 0, none⟩), .bool true, .tuple #[.agg #[.string ⟨#[97]⟩, .int .i64 1, .int .i64 0, .int .i64 0, .slice none 0 0, .int .i64 bytes.length, .int .i64 N], .bool true], .pointer (some ⟨g, 0, none⟩), .tuple #[.agg #[.string ⟨#[97]⟩, .int .i64 1, .int .i64 0, .int .i64 0, .slice none 0 0, .int .i64 bytes.length, .int .i64 N], .bool true], .agg #[.string ⟨#[97]⟩, .int .i64 1, .int .i64 0, .int .i64 0, .slice none 0 0, .int .i64 bytes.length, .int .i64 N], .bool true, .bool true, .bool false, .pointer (some ⟨w.heap.size, 0, none⟩), .int .i64 0, .bool false, .bool false, .bool true, .bool true, undef, undef, .pointer (some ⟨w.heap.size, 1, none⟩), .slice Ab m cb, .int .i64 (m : Int), .pointer (some ⟨ab, 6, none⟩), .int .i64 (N : Int), .bool (decide (N ≤ m)), undef, undef, undef, undef, undef, undef, undef, .pointer (some ⟨g, 0, none⟩), .pointer (some ⟨g, 0, none⟩), .pointer (some ⟨g, 0, none⟩), .pointer (some ⟨g, 39, none⟩), v, .pointer (some ⟨w.heap.size, 1, none⟩), .slice Ab m cb, v4, .pointer (some ⟨g, 0, none⟩), undef, undef, undef, undef, undef, undef, undef, undef, undef, undef, undef, undef, undef, undef, undef], defers := [] }) rfl (by kernel_rfl) (by kernel_rfl) (by kernel_rfl) (by kernel_rfl) (fun _ => by kernel_rfl) (by kernel_rfl) True.intro ?_
      refine rg_pure 9 (oi := { dst := some 44, op := Op.fieldAddr 70 (Operand.tmp 43) 1, type := 0, pos := "fetch.go:87", after := #[{ on := 8, ground := Ground.data }, { on := 0, ground := Ground.phase }, { on := 1, ground := Ground.phase }, { on := 2, ground := Ground.phase }, { on := 3, ground := Ground.phase }, { on := 4, ground := Ground.phase }, { on := 5, ground := Ground.phase }, { on := 6, ground := Ground.phase }, { on := 7, ground := Ground.phase }], guard := none }) (.pointer (some ⟨g, 39, none⟩)) ({ tmps := #[.pointer (some ⟨g, 0, none⟩), .agg #[.int .i64 0, .slice Ab m cb], undef, .pointer (some ⟨w.heap.size, 0, none⟩), .nilIface, .pointer (some ⟨ab, 0, none⟩), .bool true, .tuple #[.agg #[.string ⟨#[97]⟩, .int .i64 1, .int .i64 0, .int .i64 0, .slice none 0 0, .int .i64 bytes.length, .int .i64 N], .bool true], .pointer (some ⟨g, 0, none⟩), .tuple #[.agg #[.string ⟨#[97]⟩, .int .i64 1, .int .i64 0, .int .i64 0, .slice none 0 0, .int .i64 bytes.length, .int .i64 N], .bool true], .agg #[.string ⟨#[97]⟩, .int .i64 1, .int .i64 0, .int .i64 0, .slice none 0 0, .int .i64 bytes.length, .int .i64 N], .bool true, .bool true, .bool false, .pointer (some ⟨w.heap.size, 0, none⟩), .int .i64 0, .bool false, .bool false, .bool true, .bool true, undef, undef, .pointer (some ⟨w.heap.size, 1, none⟩), .slice Ab m cb, .int .i64 (m : Int), .pointer (some ⟨ab, 6, none⟩), .int .i64 (N : Int), .bool (decide (N ≤ m)), undef, undef, undef, undef, undef, undef, undef, .pointer (some ⟨g, 0, none⟩), .pointer (some ⟨g, 0, none⟩), .pointer (some ⟨g, 0, none⟩), .pointer (some ⟨g, 39, none⟩), v, .pointer (some ⟨w.heap.size, 1, none⟩), .slice Ab m cb, v4, .pointer (some ⟨g, 0, none⟩), .pointer (some ⟨g, 39, none⟩), undef, undef, undef, undef, undef, undef, undef, undef, undef, undef, undef, undef, undef, undef], defers := [] }) rfl (by kernel_rfl) (by kernel_rfl) (by kernel_rfl) (by kernel_rfl) (fun _ => by kernel_rfl) (by kernel_rfl) True.intro ?_
      refine rg_one 10 (oi := { dst := none, op := Op.store 23 (Operand.tmp 44) (Operand.tmp 42), type := 0, pos := "fetch.go:87", after := #[{ on := 9, ground := Ground.data }, { on := 7, ground := Ground.data }, { on := 7, ground := Ground.chain }, { on := 0, ground := Ground.phase }, { on := 1, ground := Ground.phase }, { on := 2, ground := Ground.phase }, { on := 3, ground := Ground.phase }, { on := 4, ground := Ground.phase }, { on := 5, ground := Ground.phase }, { on := 6, ground := Ground.phase }, { on := 7, ground := Ground.phase }], guard := none }) (by kernel_rfl) rfl (by kernel_rfl) ?_
      have hF4 : Fet w4 g sum size v fa sp false false := (HF3.out.kept rfl : Fet w3.drew g sum size v fa sp false false).below hB4 (Nat.lt_succ_self g)
      with_reducible refine op_store1 (ty := 23) (x := .tmp 44) (y := .tmp 42) (v := v4) ?_ ?_ ⟨g, 39, none⟩ ?_ ?_ ?_ ?_ ?_ hF4.b (hF4.free 39) ?_
      · rfl
      · rfl
      · kernel_rfl
      · kernel_rfl
      · kernel_rfl
      · exact (own_cells hO4).1
      · exact (own_cells hO4).2
      intro W9 hW9
      refine ⟨True.intro, ?_⟩
      refine rg_done (by kernel_rfl) ⟨rfl, ?_⟩ _
      exact ⟨v4, w4, hO4, hB4, hF4, hK4, hW9, rfl⟩
    · refine op_ok (v := .slice Ab m cb) (w' := w3.drew) ({ tmps := #[.pointer (some ⟨g, 0, none⟩), .agg #[.int .i64 0, .slice Ab m cb], undef, .pointer (some ⟨w.heap.size, 0, none⟩), .nilIface, .pointer (some ⟨ab, 0, none⟩), .bool true, .tuple #[.agg #[.string ⟨#[97]⟩, .int .i64 1, .int .i64 0, .int .i64 0, .slice none 0 0, .int .i64 bytes.length, .int .i64 N], .bool true], .pointer (some ⟨g, 0, none⟩), .tuple #[.agg #[.string ⟨#[97]⟩, .int .i64 1, .int .i64 0, .int .i64 0, .slice none 0 0, .int .i64 bytes.length, .int .i64 N], .bool true], .agg #[.string ⟨#[97]⟩, .int .i64 1, .int .i64 0, .int .i64 0, .slice none 0 0, .int .i64 bytes.length, .int .i64 N], .bool true, .bool true, .bool false, .pointer (some ⟨w.heap.size, 0, none⟩), .int .i64 0, .bool false, .bool false, .bool true, .bool true, undef, undef, .pointer (some ⟨w.heap.size, 1, none⟩), .slice Ab m cb, .int .i64 (m : Int), .pointer (some ⟨ab, 6, none⟩), .int .i64 (N : Int), .bool (decide (N ≤ m)), undef, undef, undef, undef, undef, undef, undef, .pointer (some ⟨g, 0, none⟩), .pointer (some ⟨g, 0, none⟩), .pointer (some ⟨g, 0, none⟩), .pointer (some ⟨g, 39, none⟩), undef, .pointer (some ⟨w.heap.size, 1, none⟩), .slice Ab m cb, undef, undef, undef, undef, undef, undef, undef, undef, undef, undef, undef, undef, undef, undef, undef, undef, undef], defers := [] }) (ex_load1 _ _ 23 (.tmp 40) rfl ⟨w.heap.size, 1, none⟩ (by kernel_rfl) _ (by kernel_rfl) _ Hk3.out) (by kernel_rfl) ⟨True.intro, ?_⟩
      refine rg_one 4 (oi := { dst := some 39, op := Op.load 23 (Operand.tmp 38), type := 23, pos := "fetch.go:87", after := #[{ on := 3, ground := Ground.data }], guard := none }) (by kernel_rfl) rfl (by kernel_rfl) ?_
      refine op_ok (v := v) (w' := w3.drew) ({ tmps := #[.pointer (some ⟨g, 0, none⟩), .agg #[.int .i64 0, .slice Ab m cb], undef, .pointer (some ⟨w.heap.size, 0, none⟩), .nilIface, .pointer (some ⟨ab, 0, none⟩), .bool true, .tuple #[.agg #[.string ⟨#[97]⟩, .int .i64 1, .int .i64 0, .int .i64 0, .slice none 0 0, .int .i64 bytes.length, .int .i64 N], .bool true], .pointer (some ⟨g, 0, none⟩), .tuple #[.agg #[.string ⟨#[97]⟩, .int .i64 1, .int .i64 0, .int .i64 0, .slice none 0 0, .int .i64 bytes.length, .int .i64 N], .bool true], .agg #[.string ⟨#[97]⟩, .int .i64 1, .int .i64 0, .int .i64 0, .slice none 0 0, .int .i64 bytes.length, .int .i64 N], .bool true, .bool true, .bool false, .pointer (some ⟨w.heap.size, 0, none⟩), .int .i64 0, .bool false, .bool false, .bool true, .bool true, undef, undef, .pointer (some ⟨w.heap.size, 1, none⟩), .slice Ab m cb, .int .i64 (m : Int), .pointer (some ⟨ab, 6, none⟩), .int .i64 (N : Int), .bool (decide (N ≤ m)), undef, undef, undef, undef, undef, undef, undef, .pointer (some ⟨g, 0, none⟩), .pointer (some ⟨g, 0, none⟩), .pointer (some ⟨g, 0, none⟩), .pointer (some ⟨g, 39, none⟩), v, .pointer (some ⟨w.heap.size, 1, none⟩), .slice Ab m cb, undef, undef, undef, undef, undef, undef, undef, undef, undef, undef, undef, undef, undef, undef, undef, undef, undef], defers := [] }) (ex_load1 _ _ 23 (.tmp 38) rfl ⟨g, 39, none⟩ (by kernel_rfl) _ (by kernel_rfl) _ HF3.out.b) (by kernel_rfl) ⟨True.intro, ?_⟩
      refine rg_one 7 (oi := { dst := some 42, op := Op.call { callee := Callee.builtin Builtin.append, args := #[Operand.tmp 39, Operand.tmp 41], argTypes := #[23, 23] }, type := 23, pos := "fetch.go:87", after := #[{ on := 4, ground := Ground.data }, { on := 6, ground := Ground.data }], guard := none }) (by kernel_rfl) rfl (by kernel_rfl) ?_
      with_reducible refine op_append_intsB (w0 := w3.drew) (W := w3.drew) (g + 1) (.tmp 39) (.tmp 41) 23 5 .u8 1 ?_ Try.underlying23 info5 v bytes ys w.heap.size Ab m cb ?_ ?_ Hm.out HO3.out.drew HR3.out.drew (Below.refl _ _) ?_ ?_ ?_ ?_
      · rfl
      · kernel_rfl
      · kernel_rfl
      · exact HF3.out.lt
      · omega
      · have := HN.out; omega
      rintro v4 w4 hO4 hB4 hg4 _
      have hK4 : KeptT g w3.drew w4 := KeptT.ownB HO3.out.drew hg4
      refine ⟨True.intro, ?_⟩
      show wpAnyH _ _ _ _ _ _ _ ({ tmps := #[.pointer (some ⟨g, 0, none⟩), .agg #[.int .i64 0, .slice Ab m cb], undef, .pointer (some ⟨w.heap.size, 0, none⟩), .nilIface, .pointer (some ⟨ab, 0, none⟩), .bool true, .tuple #[.agg #[.string ⟨#[97]⟩, .int .i64 1, .int .i64 0, .int .i64 0, .slice none 0 0, .int .i64 bytes.length, .int .i64 N], .bool true], .pointer (some ⟨g, 0, none⟩), .tuple #[.agg #[.string ⟨#[97]⟩, .int .i64 1, .int .i64 0, .int .i64 0, .slice none 0 0, .int .i64 bytes.length, .int .i64 N], .bool true], .agg #[.string ⟨#[97]⟩, .int .i64 1, .int .i64 0, .int .i64 0, .slice none 0 0, .int .i64 bytes.length, .int .i64 N], .bool true, .bool true, .bool false, .pointer (some ⟨w.heap.size, 0, none⟩), .int .i64 0, .bool false, .bool false, .bool true, .bool true, undef, undef, .pointer (some ⟨w.heap.size, 1, none⟩), .slice Ab m cb, .int .i64 (m : Int), .pointer (some ⟨ab, 6, none⟩), .int .i64 (N : Int), .bool (decide (N ≤ m)), undef, undef, undef, undef, undef, undef, undef, .pointer (some ⟨g, 0, none⟩), .pointer (some ⟨g, 0, none⟩), .pointer (some ⟨g, 0, none⟩), .pointer (some ⟨g, 39, none⟩), v, .pointer (some ⟨w.heap.size, 1, none⟩), .slice Ab m cb, v4, undef, undef, undef, undef, undef, undef, undef, undef, undef, undef, undef, undef, undef, undef, undef, undef], defers := [] }) w4
      refine rg_pure 8 (oi := { dst := some 43, op := Op.nilCheck (Operand.tmp 35), type := 0, pos := "fetch.go:87", after := #[{ on := 0, ground := Ground.data }, { on := 0, ground := Ground.phase }, { on := 1, ground := Ground.phase }, { on := 2, ground := Ground.phase }, { on := 3, ground := Ground.phase }, { on := 4, ground := Ground.phase }, { on := 5, ground := Ground.phase }, { on := 6, ground := Ground.phase }, { on := 7, ground := Ground.phase }], guard := none }) (.pointer (some ⟨g, 0, none⟩)) ({ tmps := #[.pointer (some ⟨g, 0, none⟩), .agg #[.int .i64 0, .slice Ab m cb], undef, .pointer (some ⟨w.heap.size, 0, none⟩), .nilIface, .pointer (some ⟨ab, 0, none⟩), .bool true, .tuple #[.agg #[.string ⟨#[97]⟩, .int .i64 1, .int .i64 0, .int .i64 0, .slice none 0 0, .int .i64 bytes.length, .int .i64 N], .bool true], .pointer (some ⟨g, 0, none⟩), .tuple #[.agg #[.string ⟨#[97]⟩, .int .i64 1, .int .i64 0, .int .i64 0, .slice none 0 0, .int .i64 bytes.length, .int .i64 N], .bool true], .agg #[.string ⟨#[97]⟩, .int .i64 1, .int .i64 0, .int .i64 0, .slice none 0 0, .int .i64 bytes.length, .int .i64 N], .bool true, .bool true, .bool false, .pointer (some ⟨w.heap.size, 0, none⟩), .int .i64 0, .bool false, .bool false, .bool true, .bool true, undef, undef, .pointer (some ⟨w.heap.size, 1, none⟩), .slice Ab m cb, .int .i64 (m : Int), .pointer (some ⟨ab, 6, none⟩), .int .i64 (N : Int), .bool (decide (N ≤ m)), undef, undef, undef, undef, undef, undef, undef, .pointer (some ⟨g, 0, none⟩), .pointer (some ⟨g, 0, none⟩), .pointer (some ⟨g, 0, none⟩), .pointer (some ⟨g, 39, none⟩), v, .pointer (some ⟨w.heap.size, 1, none⟩), .slice Ab m cb, v4, .pointer (some ⟨g, 0, none⟩), undef, undef, undef, undef, undef, undef, undef, undef, undef, undef, undef, undef, undef, undef, undef], defers := [] }) rfl (by kernel_rfl) (by kernel_rfl) (by kernel_rfl) (by kernel_rfl) (fun _ => by kernel_rfl) (by kernel_rfl) True.intro ?_
      refine rg_pure 9 (oi := { dst := some 44, op := Op.fieldAddr 70 (Operand.tmp 43) 1, type := 0, pos := "fetch.go:87", after := #[{ on := 8, ground := Ground.data }, { on := 0, ground := Ground.phase }, { on := 1, ground := Ground.phase }, { on := 2, ground := Ground.phase }, { on := 3, ground := Ground.phase }, { on := 4, ground := Ground.phase }, { on := 5, ground := Ground.phase }, { on := 6, ground := Ground.phase }, { on := 7, ground := Ground.phase }], guard := none }) (.pointer (some ⟨g, 39, none⟩)) ({ tmps := #[.pointer (some ⟨g, 0, none⟩), .agg #[.int .i64 0, .slice Ab m cb], undef, .pointer (some ⟨w.heap.size, 0, none⟩), .nilIface, .pointer (some ⟨ab, 0, none⟩), .bool true, .tuple #[.agg #[.string ⟨#[97]⟩, .int .i64 1, .int .i64 0, .int .i64 0, .slice none 0 0, .int .i64 bytes.length, .int .i64 N], .bool true], .pointer (some ⟨g, 0, none⟩), .tuple #[.agg #[.string ⟨#[97]⟩, .int .i64 1, .int .i64 0, .int .i64 0, .slice none 0 0, .int .i64 bytes.length, .int .i64 N], .bool true], .agg #[.string ⟨#[97]⟩, .int .i64 1, .int .i64 0, .int .i64 0, .slice none 0 0, .int .i64 bytes.length, .int .i64 N], .bool true, .bool true, .bool false, .pointer (some ⟨w.heap.size, 0, none⟩), .int .i64 0, .bool false, .bool false, .bool true, .bool true, undef, undef, .pointer (some ⟨w.heap.size, 1, none⟩), .slice Ab m cb, .int .i64 (m : Int), .pointer (some ⟨ab, 6, none⟩), .int .i64 (N : Int), .bool (decide (N ≤ m)), undef, undef, undef, undef, undef, undef, undef, .pointer (some ⟨g, 0, none⟩), .pointer (some ⟨g, 0, none⟩), .pointer (some ⟨g, 0, none⟩), .pointer (some ⟨g, 39, none⟩), v, .pointer (some ⟨w.heap.size, 1, none⟩), .slice Ab m cb, v4, .pointer (some ⟨g, 0, none⟩), .pointer (some ⟨g, 39, none⟩), undef, undef, undef, undef, undef, undef, undef, undef, undef, undef, undef, undef, undef, undef], defers := [] }) rfl (by kernel_rfl) (by kernel_rfl) (by kernel_rfl) (by kernel_rfl) (fun _ => by kernel_rfl) (by kernel_rfl) True.intro ?_
      refine rg_one 10 (oi := { dst := none, op := Op.store 23 (Operand.tmp 44) (Operand.tmp 42), type := 0, pos := "fetch.go:87", after := #[{ on := 9, ground := Ground.data }, { on := 7, ground := Ground.data }, { on := 7, ground := Ground.chain }, { on := 0, ground := Ground.phase }, { on := 1, ground := Ground.phase }, { on := 2, ground := Ground.phase }, { on := 3, ground := Ground.phase }, { on := 4, ground := Ground.phase }, { on := 5, ground := Ground.phase }, { on := 6, ground := Ground.phase }, { on := 7, ground := Ground.phase }], guard := none }) (by kernel_rfl) rfl (by kernel_rfl) ?_
      have hF4 : Fet w4 g sum size v fa sp false false := (HF3.out.kept rfl : Fet w3.drew g sum size v fa sp false false).below hB4 (Nat.lt_succ_self g)
      with_reducible refine op_store1 (ty := 23) (x := .tmp 44) (y := .tmp 42) (v := v4) ?_ ?_ ⟨g, 39, none⟩ ?_ ?_ ?_ ?_ ?_ hF4.b (hF4.free 39) ?_
      · rfl
      · rfl
      · kernel_rfl
      · kernel_rfl
      · kernel_rfl
      · exact (own_cells hO4).1
      · exact (own_cells hO4).2
      intro W9 hW9
      refine ⟨True.intro, ?_⟩
      refine rg_done (by kernel_rfl) ⟨rfl, ?_⟩ _
      exact ⟨v4, w4, hO4, hB4, hF4, hK4, hW9, rfl⟩
  · rintro a' W ⟨v4, w4, hO4, hB4, hF4, hK4, hW, rfl⟩
    have hK5 : KeptT g w W := by rw [hW]; exact ((KeptT.below hb3).drew.trans hK4).cell 39 v4
    have hF5 : Fet W g sum size v4 fa sp false false := by rw [hW]; exact hF4.set_b v4
    have hO5 : OwnB W (g + 1) 5 .u8 v4 (bytes ++ ys) := by rw [hW]; exact hO4.grown (grown_setCell w4 g 39 v4) (own_neB hO4)
    have hb5 : Below g w W := by
      rw [hW]
      exact (((hb3.mono (Nat.le_of_lt hg)).drew).trans (hB4.mono (Nat.le_succ g))).setCell (Nat.le_refl _) _
    have c40 := hF5.fa_
    have f40 := hF5.free 40
    have HF5 := keep hF5
    have HO5 := keep hO5
    clear hW hF5 hO5 hO4 hB4 hF4
    have t4 : (fa + 1 == 4) = false := by simp; omega
    go_wp2_with fail
    go_ret
    exact ⟨rfl, ⟨⟨v4, HF5.out.set_fa _, HO5.out.grown (grown_setCell W g 40 _) (own_neB HO5.out)⟩⟩, hb5.setCell (Nat.le_refl _) _, hK5.cell 40 _⟩
  --]REG
end Go.Proofs.Ytmfgcdfemhaieaa
