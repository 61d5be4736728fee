/- What is kept of a fetch. -/
import Derived.Test.YtmfgcdfemhaieaaFetP
import Derived.Test.YtmfgcdfemhaieaaFetL
namespace Go.Proofs.Ytmfgcdfemhaieaa
open Go.RowKit

theorem wrap_u64 (n : Int) (h0 : 0 ≤ n) (h : n < 1000) : IntKind.u64.wrap n = n := by
  simp [IntKind.wrap, IntKind.bits, IntKind.signed]
  omega
theorem byteL_str {xs : List Int} (h : ∀ x ∈ xs, 0 ≤ x ∧ x ≤ 255) : byteL (strOfNums xs) = xs := by
  unfold byteL strOfNums
  simp only [List.map_map]
  rw [List.map_congr_left (g := id) (fun x hx => ?_), List.map_id]
  have := h x hx
  simp only [Function.comp, UInt8.toNat_ofNat', id]
  omega
theorem below_drew' (w : World) : Below w.heap.size w w.drew := (Below.refl _ _).drew
def textOf (bytes : List Int) (fa sp : Nat) : List Int := numP bytes.length ++ bytes ++ (numP fa ++ numP sp)
structure BytS (w : World) (g h : Nat) (fa sp : Int) (W : World) : Prop where
  c40 : W.cell? ⟨g, 40, none⟩ = some (.int .i64 fa)
  c41 : W.cell? ⟨g, 41, none⟩ = some (.int .i64 sp)
  out : Below h w W
theorem BytS.below {w W W' : World} {g h : Nat} {fa sp : Int} (H : BytS w g h fa sp W) (hg : g < h) (hb : Below h W W') : BytS w g h fa sp W' :=
  ⟨(hb.cell (p := ⟨g, 40, none⟩) hg).trans H.c40, (hb.cell (p := ⟨g, 41, none⟩) hg).trans H.c41, H.out.trans hb⟩
set_option maxRecDepth 100000 in
set_option maxHeartbeats 2000000 in
theorem fbytes_any {g : Nat} {sum : List Int} {size : Int} {bytes : List Int} {fa sp : Nat} {dn fl : Bool} (w : World) (h : St w g sum size bytes fa sp dn fl) (hb : ∀ x ∈ bytes, 0 ≤ x ∧ x ≤ 255) (hn : bytes.length ≤ 109951162) (hfa : fa < 1000) (hsp : sp < 1000) :
    Calls Try.prog 19 #[.pointer (some ⟨g, 0, none⟩)] w fun e w' => e = .returned (.string (strOfNums (textOf bytes fa sp))) ∧ Below w.heap.size w w' := by
  obtain ⟨v, hF, hO⟩ := h.st
  obtain ⟨A, c, rfl, hc, hR⟩ := hO.slice
  have hlt := hF.lt
  have HF := keep hF
  have HR := keep hR
  have Hb := keep hb
  clear h hF hO hR hb
  go_enter Try.func19, Try.ntmps19
  go_wp2_with fail
  refine (newWriter_any w).mono ?_
  rintro e w1 ⟨rfl, hW1, hB1⟩
  have hF1 := HF.out.below hB1 hlt
  have c39 := hF1.b
  have hcv := conv_rd w1 23 5 Try.underlying23 Try.underlying5 A bytes.length c w.heap.size bytes rfl (HR.out.below hB1) 9 Try.underlying9
  obtain ⟨s, hs⟩ : ∃ s, strOfNums bytes = s := ⟨_, rfl⟩
  have hsz : s.size = bytes.length := by rw [← hs, strOfNums_size]
  have hsb : byteL s = bytes := by rw [← hs, byteL_str Hb.out]
  rw [hs] at hcv
  have HF1 := keep hF1
  have HW1 := keep hW1
  have Hsz := keep hsz
  have Hsb := keep hsb
  clear hF1 hW1 hs hsz hsb
  go_wp2_with fail
  have hal : Below w1.heap.size w1 (w1.alloc (.cells #[.string s] 9)) := (Below.refl _ _).alloc (Nat.le_refl _) _
  refine (wtext_one w.heap.size [] w1.heap.size s _ (HW1.out.below hal (Nat.le_refl _)) (heap_alloc_new w1 _) (by simp) (by rw [Hsz.out]; omega)).mono ?_
  rintro e w2 ⟨rfl, hW2, hB2, hK2⟩
  have hb2 : Below w.heap.size w w2 := (hB1.trans (hal.mono hB1.size)).trans hB2
  have hF2 := HF.out.below hb2 hlt
  have Hb2 := keep hb2
  have HF2 := keep hF2
  have HW2 := keep hW2
  clear hb2 hF2 hW2 hK2 hB2 hal c39 hcv
  go_wp2_with fail
  --[REG
  have Hw1 : Keep (IntKind.u64.wrap (fa : Int) = fa) := ⟨wrap_u64 _ (by omega) (by omega)⟩
  have Hw2 : Keep (IntKind.u64.wrap (sp : Int) = sp) := ⟨wrap_u64 _ (by omega) (by omega)⟩
  have hzz : w.heap.size ≤ w2.drew.heap.size := Nat.le_of_lt HW2.out.lt
  have hwz : w.heap.size < w2.heap.size := HW2.out.lt
  have hWd : Wr w2.drew w.heap.size ([] ++ numP s.size ++ byteL s) := HW2.out.below (below_drew' w2) (Nat.le_refl _)
  have hnum := wnum_any w.heap.size ([] ++ numP s.size ++ byteL s) w2.heap.size 2 [fa, sp] (w2.drew.alloc (.cells #[.int .u64 fa, .int .u64 sp] 54)) (hWd.below ((Below.refl _ _).alloc (Nat.le_refl _) _) (Nat.le_refl _)) rfl (heap_alloc_new w2.drew _) (by omega) (by intro x hx; simp at hx; omega) (by have := numP_len 9 s.size (by rw [Hsz.out]; omega); rw [List.length_append, List.length_append, byteL_length, Hsz.out] at *; simp; omega) (by omega)
  have e3 : ([] ++ numP s.size ++ byteL s) ++ [fa, sp].flatMap numP = textOf bytes fa sp := by
    rw [Hsz.out, Hsb.out]
    simp [textOf]
  rw [e3] at hnum
  have Hnum := keep hnum
  clear hnum e3 hWd
  refine rg_then (fun a' W => Below w.heap.size w2 W ∧ Wr W w.heap.size (textOf bytes fa sp) ∧ a' = { tmps := #[.pointer (some ⟨g, 0, none⟩), undef, .string ⟨#[]⟩, .pointer (some ⟨w.heap.size, 0, none⟩), .pointer (some ⟨w.heap.size, 0, none⟩), .pointer (some ⟨w.heap.size, 0, none⟩), .pointer (some ⟨g, 0, none⟩), .pointer (some ⟨g, 0, none⟩), .pointer (some ⟨g, 39, none⟩), .slice A bytes.length c, .string s, .slice (some ⟨w1.heap.size, 0, none⟩) 1 1, .tuple #[], .pointer (some ⟨w.heap.size, 0, none⟩), .pointer (some ⟨g, 0, none⟩), .pointer (some ⟨g, 0, none⟩), .pointer (some ⟨g, 40, none⟩), .int .i64 fa, .int .u64 fa, .pointer (some ⟨g, 0, none⟩), .pointer (some ⟨g, 0, none⟩), .pointer (some ⟨g, 41, none⟩), .int .i64 sp, .int .u64 sp, .slice (some ⟨w2.drew.heap.size, 0, none⟩) 2 2, .tuple #[], undef, undef, undef], defers := [] }) ?_ ?_
  · refine rg_start (BytS w2 g w.heap.size fa sp) (by kernel_rfl) ⟨HF2.out.fa_, HF2.out.sp_, (Below.refl _ _).drew⟩ (fun h0 => ?_)
    refine rg_pure 0 (oi := { dst := some 13, op := Op.move (Operand.tmp 3), type := 85, pos := "fetch.go:109", after := #[], guard := none }) (.pointer (some ⟨w.heap.size, 0, none⟩)) ({ tmps := #[.pointer (some ⟨g, 0, none⟩), undef, .string ⟨#[]⟩, .pointer (some ⟨w.heap.size, 0, none⟩), .pointer (some ⟨w.heap.size, 0, none⟩), .pointer (some ⟨w.heap.size, 0, none⟩), .pointer (some ⟨g, 0, none⟩), .pointer (some ⟨g, 0, none⟩), .pointer (some ⟨g, 39, none⟩), .slice A bytes.length c, .string s, .slice (some ⟨w1.heap.size, 0, none⟩) 1 1, .tuple #[], .pointer (some ⟨w.heap.size, 0, none⟩), undef, undef, undef, undef, undef, undef, undef, undef, undef, undef, undef, undef, undef, undef, undef], defers := [] }) rfl (by kernel_rfl) (by kernel_rfl) (by kernel_rfl) (by kernel_rfl) (fun _ => by kernel_rfl) (by kernel_rfl) h0 ?_
    refine rg_pure 1 (oi := { dst := some 14, op := Op.move (Operand.tmp 0), type := 35, pos := "fetch.go:109", after := #[], guard := none }) (.pointer (some ⟨g, 0, none⟩)) ({ tmps := #[.pointer (some ⟨g, 0, none⟩), undef, .string ⟨#[]⟩, .pointer (some ⟨w.heap.size, 0, none⟩), .pointer (some ⟨w.heap.size, 0, none⟩), .pointer (some ⟨w.heap.size, 0, none⟩), .pointer (some ⟨g, 0, none⟩), .pointer (some ⟨g, 0, none⟩), .pointer (some ⟨g, 39, none⟩), .slice A bytes.length c, .string s, .slice (some ⟨w1.heap.size, 0, none⟩) 1 1, .tuple #[], .pointer (some ⟨w.heap.size, 0, none⟩), .pointer (some ⟨g, 0, none⟩), undef, undef, undef, undef, undef, undef, undef, undef, undef, undef, undef, undef, undef, undef], defers := [] }) rfl (by kernel_rfl) (by kernel_rfl) (by kernel_rfl) (by kernel_rfl) (fun _ => by kernel_rfl) (by kernel_rfl) h0 ?_
    refine rg_pure 2 (oi := { dst := some 15, op := Op.nilCheck (Operand.tmp 14), type := 0, pos := "fetch.go:109", after := #[{ on := 1, ground := Ground.data }], guard := none }) (.pointer (some ⟨g, 0, none⟩)) ({ tmps := #[.pointer (some ⟨g, 0, none⟩), undef, .string ⟨#[]⟩, .pointer (some ⟨w.heap.size, 0, none⟩), .pointer (some ⟨w.heap.size, 0, none⟩), .pointer (some ⟨w.heap.size, 0, none⟩), .pointer (some ⟨g, 0, none⟩), .pointer (some ⟨g, 0, none⟩), .pointer (some ⟨g, 39, none⟩), .slice A bytes.length c, .string s, .slice (some ⟨w1.heap.size, 0, none⟩) 1 1, .tuple #[], .pointer (some ⟨w.heap.size, 0, none⟩), .pointer (some ⟨g, 0, none⟩), .pointer (some ⟨g, 0, none⟩), undef, undef, undef, undef, undef, undef, undef, undef, undef, undef, undef, undef, undef], defers := [] }) rfl (by kernel_rfl) (by kernel_rfl) (by kernel_rfl) (by kernel_rfl) (fun _ => by kernel_rfl) (by kernel_rfl) h0 ?_
    refine rg_pure 3 (oi := { dst := some 16, op := Op.fieldAddr 70 (Operand.tmp 15) 2, type := 0, pos := "fetch.go:109", after := #[{ on := 2, ground := Ground.data }], guard := none }) (.pointer (some ⟨g, 40, none⟩)) ({ tmps := #[.pointer (some ⟨g, 0, none⟩), undef, .string ⟨#[]⟩, .pointer (some ⟨w.heap.size, 0, none⟩), .pointer (some ⟨w.heap.size, 0, none⟩), .pointer (some ⟨w.heap.size, 0, none⟩), .pointer (some ⟨g, 0, none⟩), .pointer (some ⟨g, 0, none⟩), .pointer (some ⟨g, 39, none⟩), .slice A bytes.length c, .string s, .slice (some ⟨w1.heap.size, 0, none⟩) 1 1, .tuple #[], .pointer (some ⟨w.heap.size, 0, none⟩), .pointer (some ⟨g, 0, none⟩), .pointer (some ⟨g, 0, none⟩), .pointer (some ⟨g, 40, none⟩), undef, undef, undef, undef, undef, undef, undef, undef, undef, undef, undef, undef], defers := [] }) rfl (by kernel_rfl) (by kernel_rfl) (by kernel_rfl) (by kernel_rfl) (fun _ => by kernel_rfl) (by kernel_rfl) h0 ?_
    refine rg_read 4 (oi := { dst := some 17, op := Op.load 3 (Operand.tmp 16), type := 3, pos := "fetch.go:109", after := #[{ on := 3, ground := Ground.data }], guard := none }) (.int .i64 fa) ({ tmps := #[.pointer (some ⟨g, 0, none⟩), undef, .string ⟨#[]⟩, .pointer (some ⟨w.heap.size, 0, none⟩), .pointer (some ⟨w.heap.size, 0, none⟩), .pointer (some ⟨w.heap.size, 0, none⟩), .pointer (some ⟨g, 0, none⟩), .pointer (some ⟨g, 0, none⟩), .pointer (some ⟨g, 39, none⟩), .slice A bytes.length c, .string s, .slice (some ⟨w1.heap.size, 0, none⟩) 1 1, .tuple #[], .pointer (some ⟨w.heap.size, 0, none⟩), .pointer (some ⟨g, 0, none⟩), .pointer (some ⟨g, 0, none⟩), .pointer (some ⟨g, 40, none⟩), .int .i64 fa, undef, undef, undef, undef, undef, undef, undef, undef, undef, undef, undef], defers := [] }) rfl (by kernel_rfl) (by kernel_rfl) (by kernel_rfl) (by kernel_rfl) (fun W hW => ex_load1 _ _ 3 (.tmp 16) rfl ⟨g, 40, none⟩ (by kernel_rfl) W (by kernel_rfl) _ hW.c40) (by kernel_rfl) h0 ?_
    refine rg_pure 5 (oi := { dst := some 18, op := Op.convert 3 54 (Operand.tmp 17), type := 54, pos := "fetch.go:109", after := #[{ on := 4, ground := Ground.data }], guard := none }) (.int .u64 fa) ({ tmps := #[.pointer (some ⟨g, 0, none⟩), undef, .string ⟨#[]⟩, .pointer (some ⟨w.heap.size, 0, none⟩), .pointer (some ⟨w.heap.size, 0, none⟩), .pointer (some ⟨w.heap.size, 0, none⟩), .pointer (some ⟨g, 0, none⟩), .pointer (some ⟨g, 0, none⟩), .pointer (some ⟨g, 39, none⟩), .slice A bytes.length c, .string s, .slice (some ⟨w1.heap.size, 0, none⟩) 1 1, .tuple #[], .pointer (some ⟨w.heap.size, 0, none⟩), .pointer (some ⟨g, 0, none⟩), .pointer (some ⟨g, 0, none⟩), .pointer (some ⟨g, 40, none⟩), .int .i64 fa, .int .u64 fa, undef, undef, undef, undef, undef, undef, undef, undef, undef, undef], defers := [] }) rfl (by kernel_rfl) (by kernel_rfl) (by kernel_rfl) (by kernel_rfl) (fun _ => eq_int (a := IntKind.u64.wrap fa) Hw1.out (by kernel_rfl)) (by kernel_rfl) h0 ?_
    refine rg_pure 6 (oi := { dst := some 19, op := Op.move (Operand.tmp 0), type := 35, pos := "fetch.go:109", after := #[], guard := none }) (.pointer (some ⟨g, 0, none⟩)) ({ tmps := #[.pointer (some ⟨g, 0, none⟩), undef, .string ⟨#[]⟩, .pointer (some ⟨w.heap.size, 0, none⟩), .pointer (some ⟨w.heap.size, 0, none⟩), .pointer (some ⟨w.heap.size, 0, none⟩), .pointer (some ⟨g, 0, none⟩), .pointer (some ⟨g, 0, none⟩), .pointer (some ⟨g, 39, none⟩), .slice A bytes.length c, .string s, .slice (some ⟨w1.heap.size, 0, none⟩) 1 1, .tuple #[], .pointer (some ⟨w.heap.size, 0, none⟩), .pointer (some ⟨g, 0, none⟩), .pointer (some ⟨g, 0, none⟩), .pointer (some ⟨g, 40, none⟩), .int .i64 fa, .int .u64 fa, .pointer (some ⟨g, 0, none⟩), undef, undef, undef, undef, undef, undef, undef, undef, undef], defers := [] }) rfl (by kernel_rfl) (by kernel_rfl) (by kernel_rfl) (by kernel_rfl) (fun _ => by kernel_rfl) (by kernel_rfl) h0 ?_
    refine rg_pure 7 (oi := { dst := some 20, op := Op.nilCheck (Operand.tmp 19), type := 0, pos := "fetch.go:109", after := #[{ on := 6, ground := Ground.data }], guard := none }) (.pointer (some ⟨g, 0, none⟩)) ({ tmps := #[.pointer (some ⟨g, 0, none⟩), undef, .string ⟨#[]⟩, .pointer (some ⟨w.heap.size, 0, none⟩), .pointer (some ⟨w.heap.size, 0, none⟩), .pointer (some ⟨w.heap.size, 0, none⟩), .pointer (some ⟨g, 0, none⟩), .pointer (some ⟨g, 0, none⟩), .pointer (some ⟨g, 39, none⟩), .slice A bytes.length c, .string s, .slice (some ⟨w1.heap.size, 0, none⟩) 1 1, .tuple #[], .pointer (some ⟨w.heap.size, 0, none⟩), .pointer (some ⟨g, 0, none⟩), .pointer (some ⟨g, 0, none⟩), .pointer (some ⟨g, 40, none⟩), .int .i64 fa, .int .u64 fa, .pointer (some ⟨g, 0, none⟩), .pointer (some ⟨g, 0, none⟩), undef, undef, undef, undef, undef, undef, undef, undef], defers := [] }) rfl (by kernel_rfl) (by kernel_rfl) (by kernel_rfl) (by kernel_rfl) (fun _ => by kernel_rfl) (by kernel_rfl) h0 ?_
    refine rg_pure 8 (oi := { dst := some 21, op := Op.fieldAddr 70 (Operand.tmp 20) 3, type := 0, pos := "fetch.go:109", after := #[{ on := 7, ground := Ground.data }], guard := none }) (.pointer (some ⟨g, 41, none⟩)) ({ tmps := #[.pointer (some ⟨g, 0, none⟩), undef, .string ⟨#[]⟩, .pointer (some ⟨w.heap.size, 0, none⟩), .pointer (some ⟨w.heap.size, 0, none⟩), .pointer (some ⟨w.heap.size, 0, none⟩), .pointer (some ⟨g, 0, none⟩), .pointer (some ⟨g, 0, none⟩), .pointer (some ⟨g, 39, none⟩), .slice A bytes.length c, .string s, .slice (some ⟨w1.heap.size, 0, none⟩) 1 1, .tuple #[], .pointer (some ⟨w.heap.size, 0, none⟩), .pointer (some ⟨g, 0, none⟩), .pointer (some ⟨g, 0, none⟩), .pointer (some ⟨g, 40, none⟩), .int .i64 fa, .int .u64 fa, .pointer (some ⟨g, 0, none⟩), .pointer (some ⟨g, 0, none⟩), .pointer (some ⟨g, 41, none⟩), undef, undef, undef, undef, undef, undef, undef], defers := [] }) rfl (by kernel_rfl) (by kernel_rfl) (by kernel_rfl) (by kernel_rfl) (fun _ => by kernel_rfl) (by kernel_rfl) h0 ?_
    refine rg_read 9 (oi := { dst := some 22, op := Op.load 3 (Operand.tmp 21), type := 3, pos := "fetch.go:109", after := #[{ on := 8, ground := Ground.data }], guard := none }) (.int .i64 sp) ({ tmps := #[.pointer (some ⟨g, 0, none⟩), undef, .string ⟨#[]⟩, .pointer (some ⟨w.heap.size, 0, none⟩), .pointer (some ⟨w.heap.size, 0, none⟩), .pointer (some ⟨w.heap.size, 0, none⟩), .pointer (some ⟨g, 0, none⟩), .pointer (some ⟨g, 0, none⟩), .pointer (some ⟨g, 39, none⟩), .slice A bytes.length c, .string s, .slice (some ⟨w1.heap.size, 0, none⟩) 1 1, .tuple #[], .pointer (some ⟨w.heap.size, 0, none⟩), .pointer (some ⟨g, 0, none⟩), .pointer (some ⟨g, 0, none⟩), .pointer (some ⟨g, 40, none⟩), .int .i64 fa, .int .u64 fa, .pointer (some ⟨g, 0, none⟩), .pointer (some ⟨g, 0, none⟩), .pointer (some ⟨g, 41, none⟩), .int .i64 sp, undef, undef, undef, undef, undef, undef], defers := [] }) rfl (by kernel_rfl) (by kernel_rfl) (by kernel_rfl) (by kernel_rfl) (fun W hW => ex_load1 _ _ 3 (.tmp 21) rfl ⟨g, 41, none⟩ (by kernel_rfl) W (by kernel_rfl) _ hW.c41) (by kernel_rfl) h0 ?_
    refine rg_pure 10 (oi := { dst := some 23, op := Op.convert 3 54 (Operand.tmp 22), type := 54, pos := "fetch.go:109", after := #[{ on := 9, ground := Ground.data }], guard := none }) (.int .u64 sp) ({ tmps := #[.pointer (some ⟨g, 0, none⟩), undef, .string ⟨#[]⟩, .pointer (some ⟨w.heap.size, 0, none⟩), .pointer (some ⟨w.heap.size, 0, none⟩), .pointer (some ⟨w.heap.size, 0, none⟩), .pointer (some ⟨g, 0, none⟩), .pointer (some ⟨g, 0, none⟩), .pointer (some ⟨g, 39, none⟩), .slice A bytes.length c, .string s, .slice (some ⟨w1.heap.size, 0, none⟩) 1 1, .tuple #[], .pointer (some ⟨w.heap.size, 0, none⟩), .pointer (some ⟨g, 0, none⟩), .pointer (some ⟨g, 0, none⟩), .pointer (some ⟨g, 40, none⟩), .int .i64 fa, .int .u64 fa, .pointer (some ⟨g, 0, none⟩), .pointer (some ⟨g, 0, none⟩), .pointer (some ⟨g, 41, none⟩), .int .i64 sp, .int .u64 sp, undef, undef, undef, undef, undef], defers := [] }) rfl (by kernel_rfl) (by kernel_rfl) (by kernel_rfl) (by kernel_rfl) (fun _ => eq_int (a := IntKind.u64.wrap sp) Hw2.out (by kernel_rfl)) (by kernel_rfl) h0 ?_
    refine rg_one 11 (oi := { dst := some 24, op := Op.buildSlice 102 2 #[(0, Operand.tmp 18), (1, Operand.tmp 23)], type := 102, pos := "fetch.go:109", after := #[{ on := 5, ground := Ground.data }, { on := 10, ground := Ground.data }], guard := none }) (by kernel_rfl) rfl (by kernel_rfl) ?_
    have h1 : BytS w2 g w.heap.size fa sp (w2.drew.alloc (.cells #[.int .u64 fa, .int .u64 sp] 54)) := h0.below hlt ((Below.refl _ _).alloc hzz _)
    refine op_ok (v := .slice (some ⟨w2.drew.heap.size, 0, none⟩) 2 2) (w' := w2.drew.alloc (.cells #[.int .u64 fa, .int .u64 sp] 54)) ({ tmps := #[.pointer (some ⟨g, 0, none⟩), undef, .string ⟨#[]⟩, .pointer (some ⟨w.heap.size, 0, none⟩), .pointer (some ⟨w.heap.size, 0, none⟩), .pointer (some ⟨w.heap.size, 0, none⟩), .pointer (some ⟨g, 0, none⟩), .pointer (some ⟨g, 0, none⟩), .pointer (some ⟨g, 39, none⟩), .slice A bytes.length c, .string s, .slice (some ⟨w1.heap.size, 0, none⟩) 1 1, .tuple #[], .pointer (some ⟨w.heap.size, 0, none⟩), .pointer (some ⟨g, 0, none⟩), .pointer (some ⟨g, 0, none⟩), .pointer (some ⟨g, 40, none⟩), .int .i64 fa, .int .u64 fa, .pointer (some ⟨g, 0, none⟩), .pointer (some ⟨g, 0, none⟩), .pointer (some ⟨g, 41, none⟩), .int .i64 sp, .int .u64 sp, .slice (some ⟨w2.drew.heap.size, 0, none⟩) 2 2, undef, undef, undef, undef], defers := [] }) (by kernel_rfl) (by kernel_rfl) ⟨h1, ?_⟩
    refine rg_one 12 (oi := { dst := some 25, op := Op.call { callee := Callee.value (Operand.func 40), args := #[Operand.tmp 13, Operand.tmp 24], argTypes := #[85, 102] }, type := 0, pos := "fetch.go:109", after := #[{ on := 0, ground := Ground.data }, { on := 11, ground := Ground.data }], guard := none }) (by kernel_rfl) rfl (by kernel_rfl) ?_
    refine op_call (v := .tuple #[]) (f := 40) (args := #[.pointer (some ⟨w.heap.size, 0, none⟩), .slice (some ⟨w2.heap.size, 0, none⟩) 2 2]) ({ tmps := #[.pointer (some ⟨g, 0, none⟩), undef, .string ⟨#[]⟩, .pointer (some ⟨w.heap.size, 0, none⟩), .pointer (some ⟨w.heap.size, 0, none⟩), .pointer (some ⟨w.heap.size, 0, none⟩), .pointer (some ⟨g, 0, none⟩), .pointer (some ⟨g, 0, none⟩), .pointer (some ⟨g, 39, none⟩), .slice A bytes.length c, .string s, .slice (some ⟨w1.heap.size, 0, none⟩) 1 1, .tuple #[], .pointer (some ⟨w.heap.size, 0, none⟩), .pointer (some ⟨g, 0, none⟩), .pointer (some ⟨g, 0, none⟩), .pointer (some ⟨g, 40, none⟩), .int .i64 fa, .int .u64 fa, .pointer (some ⟨g, 0, none⟩), .pointer (some ⟨g, 0, none⟩), .pointer (some ⟨g, 41, none⟩), .int .i64 sp, .int .u64 sp, .slice (some ⟨w2.drew.heap.size, 0, none⟩) 2 2, .tuple #[], undef, undef, undef], defers := [] }) (by kernel_rfl) (Hnum.out.mono fun e w' h => ⟨h.1, h.2⟩) (by kernel_rfl) ?_
    intro W3 h3
    have h4 := h1.below hlt h3.2.1
    refine ⟨h4, ?_⟩
    refine rg_done (by kernel_rfl) ⟨rfl, ?_⟩ _
    exact ⟨h4.out, h3.1, rfl⟩
  · rintro a' W ⟨hB4, hW4, rfl⟩
    have hbW : Below w.heap.size w W := Hb2.out.trans hB4
    have htl : (textOf bytes fa sp).length ≤ 1099511627776 := by
      have h1 := numP_len 9 bytes.length (by omega)
      have h2 := numP_len 9 fa (by omega)
      have h3 := numP_len 9 sp (by omega)
      simp only [textOf, List.length_append]
      omega
    have hby := wbytes_any w.heap.size (textOf bytes fa sp) W hW4 htl
    clear hW4
    obtain ⟨T, hT⟩ : ∃ T, textOf bytes fa sp = T := ⟨_, rfl⟩
    rw [hT] at hby htl
    have HT := keep hT
    clear hT
    go_wp2_with fail
    refine hby.mono ?_
    rintro e w5 ⟨A5, c5, rfl, hc5, hR5, hB5⟩
    have hcv5 := conv_rd w5 23 5 Try.underlying23 Try.underlying5 A5 T.length c5 w5.heap.size T rfl hR5 9 Try.underlying9
    have hb5 := hbW.trans (hB5.mono hbW.size)
    obtain ⟨S, hS⟩ : ∃ S, strOfNums T = S := ⟨_, rfl⟩
    rw [hS] at hcv5
    have HS := keep hS
    clear hS hR5
    go_wp2_with fail
    go_ret
    exact ⟨by rw [HT.out, HS.out]; rfl, hb5⟩
  --]REG
end Go.Proofs.Ytmfgcdfemhaieaa
