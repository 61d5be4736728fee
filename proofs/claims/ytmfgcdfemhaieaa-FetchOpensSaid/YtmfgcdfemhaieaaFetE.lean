/- A row of bytes: the package that a fetch is of. -/
import Derived.Test.YtmfgcdfemhaieaaFetC
import Derived.Test.YtmfgcdfemhaieaaFetD
import Derived.Test.YtmfgcdfemhaieaaReg
namespace Go.Proofs.Ytmfgcdfemhaieaa
open Go.RowKit

theorem row_built : ∀ (sum : List Int) (size : Int), sum.length = 32 → Try.prog.built 33 [(0, .string ⟨#[97]⟩), (1, .agg #[.int .i64 1, .int .i64 0, .int .i64 0, .slice none 0 0]), (2, .agg (bys sum)), (3, .int .i64 size)] = some (headL sum size).toArray
  | [s0, s1, s2, s3, s4, s5, s6, s7, s8, s9, s10, s11, s12, s13, s14, s15, s16, s17, s18, s19, s20, s21, s22, s23, s24, s25, s26, s27, s28, s29, s30, s31], size, _ => by kernel_rfl
theorem sumP_len (t : List Int) : (sumP t).length = 32 := by simp [sumP, keyTo_length]
def zeroR : Array Value := #[.string ⟨#[]⟩, .int .i64 0, .int .i64 0, .int .i64 0, .slice none 0 0, .int .u8 0, .int .u8 0, .int .u8 0, .int .u8 0, .int .u8 0, .int .u8 0, .int .u8 0, .int .u8 0, .int .u8 0, .int .u8 0, .int .u8 0, .int .u8 0, .int .u8 0, .int .u8 0, .int .u8 0, .int .u8 0, .int .u8 0, .int .u8 0, .int .u8 0, .int .u8 0, .int .u8 0, .int .u8 0, .int .u8 0, .int .u8 0, .int .u8 0, .int .u8 0, .int .u8 0, .int .u8 0, .int .u8 0, .int .u8 0, .int .u8 0, .int .u8 0, .int .i64 0, .slice none 0 0]
def lieSum (s : List Int) (k : Int) : List Int := if k = 1 then s.set 0 (bits BinOp.xor IntKind.u8 (s.getD 0 0) 1) else s
def lieSize (n k : Int) : Int := if k = 2 then n + 5 else if k = 3 then max (n - 5) 0 else if k = 4 then -3 else n
def RowPost (sum : List Int) (size : Int) (w : World) (e : Ending) (w' : World) : Prop := e = .returned (.agg (headL sum size).toArray) ∧ Below w.heap.size w w'
theorem RdP.one {W : World} {p B : Nat} {A : Option Addr} {c : Nat} {xs : List Int} (hc : W.cell? ⟨p, 0, none⟩ = some (.slice A xs.length c)) (hB : p < B) (hl : xs.length ≤ c) (h : RdI W B .u8 A xs) : RdP W B (some ⟨p, 0, none⟩) [xs] :=
  ⟨fun j hj => by
    obtain rfl : j = 0 := by simpa using hj
    exact ⟨p, 0, A, c, rfl, hB, hc, hl, h⟩⟩
/-- The sum of one slice of bytes that was just put into a list. -/
theorem of_one (A : Option Addr) (n c : Nat) (xs : List Int) (hn : xs.length = n) (hc : n ≤ c) (w0 : World) (hL : n ≤ 1099511627776) (w : World) (b : Nat) (t : TypeId) (HR : RdI w0 w0.heap.size .u8 A xs) (hb : Below w0.heap.size w0 w) (hr : w.heap[b]? = some (.cells #[.slice A n c] t (0, 0))) :
    Calls Try.prog 22 #[.slice (some ⟨b, 0, none⟩) 1 1] w (SumPost xs w) := by
  subst hn
  have h := of_any (some ⟨b, 0, none⟩) 1 [xs] w (by simpa using hL)
    (RdP.one (p := b) (by rw [cell_of_row _ b 0 _ _ _ hr]; rfl) (row_lt hr) hc ((HR.below hb).more hb.size)) (by simp)
  simp only [List.flatten_cons, List.flatten_nil, List.append_nil] at h
  exact h

set_option maxRecDepth 100000 in
set_option maxHeartbeats 1000000 in
theorem row_any (A : Option Addr) (n c : Nat) (xs : List Int) (lie : Int) (w : World) (h0 : 0 ≤ lie) (h1 : lie ≤ 255) (hL : n ≤ 1099511627776) (hn : xs.length = n) (hc : n ≤ c) (HR : RdI w w.heap.size .u8 A xs) :
    Calls Try.prog 8 #[.slice A n c, .int .u8 lie] w (RowPost (lieSum (sumP xs) (lie % 6)) (lieSize n (lie % 6)) w) := by
  have hv := version_one
  unfold oneText at hv
  have Hn := keep hn
  clear hn
  go_enter Try.func8, Try.ntmps8
  go_wp2_with fail
  refine (hv _).mono ?_
  rintro e w1 ⟨rfl, hB1⟩
  have hb1 : Below w.heap.size w w1 := ((Below.refl w.heap.size w).alloc (Nat.le_refl _) _).trans (hB1.mono (by simp))
  have hr1 : w1.heap[w.heap.size]? = some (.cells zeroR 33 (0, 0)) := by
    rw [hB1.block _ (by simp)]
    exact heap_alloc_new w _
  have hlt1 := row_lt hr1
  clear hB1 hv
  go_wp2_with fail
  have hb2 : Below w.heap.size w (w1.alloc (.cells #[.int .i64 1, .int .i64 0, .int .i64 0, .slice none 0 0] 28)) := hb1.alloc hb1.size _
  have hr2 : (w1.alloc (.cells #[.int .i64 1, .int .i64 0, .int .i64 0, .slice none 0 0] 28)).heap[w.heap.size]? = some (.cells zeroR 33 (0, 0)) := by
    rw [Below.heap_alloc _ _ _ hlt1]; exact hr1
  have hr3 : (w1.alloc (.cells #[.int .i64 1, .int .i64 0, .int .i64 0, .slice none 0 0] 28)).rangeAt w1.heap.size 0 [.int .i64 1, .int .i64 0, .int .i64 0, .slice none 0 0] := by
    intro j v hv
    rw [cell_of_row _ _ _ _ _ _ (heap_alloc_new w1 _)]
    simpa using hv
  obtain ⟨vb, hvb⟩ : ∃ vb, w1.heap.size = vb := ⟨_, rfl⟩
  have hz2 : vb < (w1.alloc (.cells #[.int .i64 1, .int .i64 0, .int .i64 0, .slice none 0 0] 28)).heap.size := by rw [← hvb]; simp
  generalize hw2 : w1.alloc (.cells #[.int .i64 1, .int .i64 0, .int .i64 0, .slice none 0 0] 28) = w2 at *
  rw [hvb] at hr3 hlt1 ⊢
  clear hw2 hvb hb1 hr1
  have hrng : ∀ W : World, Below w2.heap.size w2 W → W.rangeAt vb 0 [.int .i64 1, .int .i64 0, .int .i64 0, .slice none 0 0] := by
    intro W hb j x hx
    have hc := (hb.cell (p := ⟨vb, 0 + j, none⟩) hz2)
    rw [hc]
    exact hr3 j x hx
  have Hr2 := keep hr2
  have Hrng := keep hrng
  clear hr2 hrng hr3
  have hsz39 : (headL (sumP xs) n).toArray.size = 39 := headL_length (sumP_len xs)
  have hone39 : (headL (sumP xs) n).toArray.all (·.oneCell') = true := headL_one _ _
  refine rg_then (fun a' W => ∃ rb b, Below w2.heap.size w2 W ∧ w2.heap.size ≤ rb ∧ W.heap[rb]? = some (.cells (headL (sumP xs) n).toArray 33 (0, 0)) ∧ a' = { tmps := #[.slice A n c, .int .u8 lie, undef, undef, .pointer (some ⟨w.heap.size, 0, none⟩), .pointer (some ⟨vb, 0, none⟩), .int .i64 0, .pointer (some ⟨rb, 0, none⟩), .tuple #[.agg #[.int .i64 1, .int .i64 0, .int .i64 0, .slice none 0 0], .int .i64 0], .tuple #[.agg #[.int .i64 1, .int .i64 0, .int .i64 0, .slice none 0 0], .int .i64 0], .agg #[.int .i64 1, .int .i64 0, .int .i64 0, .slice none 0 0], .int .i64 0, .agg #[.int .i64 1, .int .i64 0, .int .i64 0, .slice none 0 0], .slice A n c, .slice (some ⟨b, 0, none⟩) 1 1, .agg (bys (sumP xs)), .slice A n c, .int .i64 (n : Int), .agg (headL (sumP xs) n).toArray, undef, undef, undef, undef, undef, undef, undef, undef, undef, undef, undef, undef, undef, undef, undef, undef, undef, undef, undef, undef, undef, undef, undef, undef, undef, undef, undef], defers := [] }) ?_ ?_
  · refine rg_start (fun W => Below w2.heap.size w2 W) (by kernel_rfl) (Below.refl _ _).drew (fun h0 => ?_)
    refine rg_read 0 (oi := { dst := some 12, op := Op.load 28 (Operand.tmp 5), type := 28, pos := "law.go:46", after := #[], guard := none }) (.agg #[.int .i64 1, .int .i64 0, .int .i64 0, .slice none 0 0]) ({ tmps := #[.slice A n c, .int .u8 lie, undef, undef, .pointer (some ⟨w.heap.size, 0, none⟩), .pointer (some ⟨vb, 0, none⟩), .int .i64 0, undef, .tuple #[.agg #[.int .i64 1, .int .i64 0, .int .i64 0, .slice none 0 0], .int .i64 0], .tuple #[.agg #[.int .i64 1, .int .i64 0, .int .i64 0, .slice none 0 0], .int .i64 0], .agg #[.int .i64 1, .int .i64 0, .int .i64 0, .slice none 0 0], .int .i64 0, .agg #[.int .i64 1, .int .i64 0, .int .i64 0, .slice none 0 0], undef, undef, undef, undef, undef, undef, undef, undef, undef, undef, undef, undef, undef, undef, undef, undef, undef, undef, undef, undef, undef, undef, undef, undef, undef, undef, undef, undef, undef, undef, undef, undef, undef], defers := [] }) rfl (by kernel_rfl) (by kernel_rfl) (by kernel_rfl) (by kernel_rfl) (fun W hW => ex_loadRow _ _ 28 _ rfl vb 0 (by kernel_rfl) [.int .i64 1, .int .i64 0, .int .i64 0, .slice none 0 0] _ Try.underlying28 rfl (by kernel_rfl) W (Hrng.out W hW)) (by kernel_rfl) h0 ?_
    refine rg_pure 1 (oi := { dst := some 13, op := Op.move (Operand.tmp 0), type := 23, pos := "law.go:46", after := #[], guard := none }) (.slice A n c) ({ tmps := #[.slice A n c, .int .u8 lie, undef, undef, .pointer (some ⟨w.heap.size, 0, none⟩), .pointer (some ⟨vb, 0, none⟩), .int .i64 0, undef, .tuple #[.agg #[.int .i64 1, .int .i64 0, .int .i64 0, .slice none 0 0], .int .i64 0], .tuple #[.agg #[.int .i64 1, .int .i64 0, .int .i64 0, .slice none 0 0], .int .i64 0], .agg #[.int .i64 1, .int .i64 0, .int .i64 0, .slice none 0 0], .int .i64 0, .agg #[.int .i64 1, .int .i64 0, .int .i64 0, .slice none 0 0], .slice A n c, undef, undef, undef, undef, undef, undef, undef, undef, undef, undef, undef, undef, undef, undef, undef, undef, undef, undef, undef, undef, undef, undef, undef, undef, undef, undef, undef, undef, undef, undef, undef, undef], defers := [] }) rfl (by kernel_rfl) (by kernel_rfl) (by kernel_rfl) (by kernel_rfl) (fun _ => by kernel_rfl) (by kernel_rfl) h0 ?_
    refine rg_pure 4 (oi := { dst := some 16, op := Op.move (Operand.tmp 0), type := 23, pos := "law.go:46", after := #[], guard := none }) (.slice A n c) ({ tmps := #[.slice A n c, .int .u8 lie, undef, undef, .pointer (some ⟨w.heap.size, 0, none⟩), .pointer (some ⟨vb, 0, none⟩), .int .i64 0, undef, .tuple #[.agg #[.int .i64 1, .int .i64 0, .int .i64 0, .slice none 0 0], .int .i64 0], .tuple #[.agg #[.int .i64 1, .int .i64 0, .int .i64 0, .slice none 0 0], .int .i64 0], .agg #[.int .i64 1, .int .i64 0, .int .i64 0, .slice none 0 0], .int .i64 0, .agg #[.int .i64 1, .int .i64 0, .int .i64 0, .slice none 0 0], .slice A n c, undef, undef, .slice A n c, undef, undef, undef, undef, undef, undef, undef, undef, undef, undef, undef, undef, undef, undef, undef, undef, undef, undef, undef, undef, undef, undef, undef, undef, undef, undef, undef, undef, undef], defers := [] }) rfl (by kernel_rfl) (by kernel_rfl) (by kernel_rfl) (by kernel_rfl) (fun _ => by kernel_rfl) (by kernel_rfl) h0 ?_
    refine rg_pure 5 (oi := { dst := some 17, op := Op.call { callee := Callee.builtin Builtin.len, args := #[Operand.tmp 16], argTypes := #[23] }, type := 3, pos := "law.go:46", after := #[{ on := 4, ground := Ground.data }], guard := none }) (.int .i64 (n : Int)) ({ tmps := #[.slice A n c, .int .u8 lie, undef, undef, .pointer (some ⟨w.heap.size, 0, none⟩), .pointer (some ⟨vb, 0, none⟩), .int .i64 0, undef, .tuple #[.agg #[.int .i64 1, .int .i64 0, .int .i64 0, .slice none 0 0], .int .i64 0], .tuple #[.agg #[.int .i64 1, .int .i64 0, .int .i64 0, .slice none 0 0], .int .i64 0], .agg #[.int .i64 1, .int .i64 0, .int .i64 0, .slice none 0 0], .int .i64 0, .agg #[.int .i64 1, .int .i64 0, .int .i64 0, .slice none 0 0], .slice A n c, undef, undef, .slice A n c, .int .i64 (n : Int), undef, undef, undef, undef, undef, undef, undef, undef, undef, undef, undef, undef, undef, undef, undef, undef, undef, undef, undef, undef, undef, undef, undef, undef, undef, undef, undef, undef], defers := [] }) rfl (by kernel_rfl) (by kernel_rfl) (by kernel_rfl) (by kernel_rfl) (fun _ => by kernel_rfl) (by kernel_rfl) h0 ?_
    refine rg_two 2 7 (oi := { dst := some 14, op := Op.buildSlice 67 1 #[(0, Operand.tmp 13)], type := 67, pos := "law.go:46", after := #[{ on := 1, ground := Ground.data }], guard := none }) (oj := { dst := some 7, op := Op.alloc 33, type := 0, pos := "law.go:46", after := #[], guard := none }) (by kernel_rfl) rfl (by kernel_rfl) rfl (by kernel_rfl) ?_ ?_
    · have h1 := h0.alloc h0.size (.cells #[.slice A n c] 23)
      refine op_ok (v := .slice (some ⟨w2.drew.heap.size, 0, none⟩) 1 1) (w' := w2.drew.alloc (.cells #[.slice A n c] 23)) ({ tmps := #[.slice A n c, .int .u8 lie, undef, undef, .pointer (some ⟨w.heap.size, 0, none⟩), .pointer (some ⟨vb, 0, none⟩), .int .i64 0, undef, .tuple #[.agg #[.int .i64 1, .int .i64 0, .int .i64 0, .slice none 0 0], .int .i64 0], .tuple #[.agg #[.int .i64 1, .int .i64 0, .int .i64 0, .slice none 0 0], .int .i64 0], .agg #[.int .i64 1, .int .i64 0, .int .i64 0, .slice none 0 0], .int .i64 0, .agg #[.int .i64 1, .int .i64 0, .int .i64 0, .slice none 0 0], .slice A n c, .slice (some ⟨w2.drew.heap.size, 0, none⟩) 1 1, undef, .slice A n c, .int .i64 (n : Int), undef, undef, undef, undef, undef, undef, undef, undef, undef, undef, undef, undef, undef, undef, undef, undef, undef, undef, undef, undef, undef, undef, undef, undef, undef, undef, undef, undef], defers := [] }) (by kernel_rfl) (by kernel_rfl) ⟨h1, ?_⟩
      refine rg_two 3 7 (oi := { dst := some 15, op := Op.call { callee := Callee.value (Operand.func 22), args := #[Operand.tmp 14], argTypes := #[67] }, type := 30, pos := "law.go:46", after := #[{ on := 2, ground := Ground.data }], guard := none }) (oj := { dst := some 7, op := Op.alloc 33, type := 0, pos := "law.go:46", after := #[], guard := none }) (by kernel_rfl) rfl (by kernel_rfl) rfl (by kernel_rfl) ?_ ?_
      · refine op_call (v := .agg (bys (sumP xs))) (f := 22) (args := #[.slice (some ⟨w2.heap.size, 0, none⟩) 1 1]) ({ tmps := #[.slice A n c, .int .u8 lie, undef, undef, .pointer (some ⟨w.heap.size, 0, none⟩), .pointer (some ⟨vb, 0, none⟩), .int .i64 0, undef, .tuple #[.agg #[.int .i64 1, .int .i64 0, .int .i64 0, .slice none 0 0], .int .i64 0], .tuple #[.agg #[.int .i64 1, .int .i64 0, .int .i64 0, .slice none 0 0], .int .i64 0], .agg #[.int .i64 1, .int .i64 0, .int .i64 0, .slice none 0 0], .int .i64 0, .agg #[.int .i64 1, .int .i64 0, .int .i64 0, .slice none 0 0], .slice A n c, .slice (some ⟨w2.drew.heap.size, 0, none⟩) 1 1, .agg (bys (sumP xs)), .slice A n c, .int .i64 (n : Int), undef, undef, undef, undef, undef, undef, undef, undef, undef, undef, undef, undef, undef, undef, undef, undef, undef, undef, undef, undef, undef, undef, undef, undef, undef, undef, undef, undef], defers := [] }) (by kernel_rfl) (of_one A n c xs Hn.out hc w hL (w2.drew.alloc (.cells #[.slice A n c] 23)) w2.heap.size _ HR (hb2.trans (h1.mono hb2.size)) (heap_alloc_new w2.drew _)) (by kernel_rfl) ?_
        intro W3 hc3
        have h3 := h1.trans (hc3.mono h1.size)
        refine ⟨h3, ?_⟩
        refine rg_pure 6 (oi := { dst := some 18, op := Op.build 33 #[(0, Operand.const (Value.string { data := #[97] })), (1, Operand.tmp 12), (2, Operand.tmp 15), (3, Operand.tmp 17)], type := 33, pos := "law.go:46", after := #[{ on := 0, ground := Ground.data }, { on := 3, ground := Ground.data }, { on := 5, ground := Ground.data }], guard := none }) (.agg (headL (sumP xs) n).toArray) ({ tmps := #[.slice A n c, .int .u8 lie, undef, undef, .pointer (some ⟨w.heap.size, 0, none⟩), .pointer (some ⟨vb, 0, none⟩), .int .i64 0, undef, .tuple #[.agg #[.int .i64 1, .int .i64 0, .int .i64 0, .slice none 0 0], .int .i64 0], .tuple #[.agg #[.int .i64 1, .int .i64 0, .int .i64 0, .slice none 0 0], .int .i64 0], .agg #[.int .i64 1, .int .i64 0, .int .i64 0, .slice none 0 0], .int .i64 0, .agg #[.int .i64 1, .int .i64 0, .int .i64 0, .slice none 0 0], .slice A n c, .slice (some ⟨w2.drew.heap.size, 0, none⟩) 1 1, .agg (bys (sumP xs)), .slice A n c, .int .i64 (n : Int), .agg (headL (sumP xs) n).toArray, undef, undef, undef, undef, undef, undef, undef, undef, undef, undef, undef, undef, undef, undef, undef, undef, undef, undef, undef, undef, undef, undef, undef, undef, undef, undef, undef], defers := [] }) rfl (by kernel_rfl) (by kernel_rfl) (by kernel_rfl) (by kernel_rfl) (fun W => ex_build _ _ 33 _ rfl _ (headL (sumP xs) n).toArray (by kernel_rfl) (row_built _ _ (sumP_len xs)) W) (by kernel_rfl) h3 ?_
        refine rg_one 7 (oi := { dst := some 7, op := Op.alloc 33, type := 0, pos := "law.go:46", after := #[], guard := none }) (by kernel_rfl) rfl (by kernel_rfl) ?_
        have h4 := h3.alloc h3.size (.cells zeroR 33)
        refine op_ok (v := .pointer (some ⟨W3.heap.size, 0, none⟩)) (w' := W3.alloc (.cells zeroR 33)) ({ tmps := #[.slice A n c, .int .u8 lie, undef, undef, .pointer (some ⟨w.heap.size, 0, none⟩), .pointer (some ⟨vb, 0, none⟩), .int .i64 0, .pointer (some ⟨W3.heap.size, 0, none⟩), .tuple #[.agg #[.int .i64 1, .int .i64 0, .int .i64 0, .slice none 0 0], .int .i64 0], .tuple #[.agg #[.int .i64 1, .int .i64 0, .int .i64 0, .slice none 0 0], .int .i64 0], .agg #[.int .i64 1, .int .i64 0, .int .i64 0, .slice none 0 0], .int .i64 0, .agg #[.int .i64 1, .int .i64 0, .int .i64 0, .slice none 0 0], .slice A n c, .slice (some ⟨w2.drew.heap.size, 0, none⟩) 1 1, .agg (bys (sumP xs)), .slice A n c, .int .i64 (n : Int), .agg (headL (sumP xs) n).toArray, undef, undef, undef, undef, undef, undef, undef, undef, undef, undef, undef, undef, undef, undef, undef, undef, undef, undef, undef, undef, undef, undef, undef, undef, undef, undef, undef], defers := [] }) (by kernel_rfl) (by kernel_rfl) ⟨h4, ?_⟩
        have hz3 := heap_alloc_new W3 (.cells zeroR 33)
        generalize W3.alloc (.cells zeroR 33) = W4 at h4 hz3 ⊢
        refine rg_one 8 (oi := { dst := none, op := Op.store 33 (Operand.tmp 7) (Operand.tmp 18), type := 0, pos := "law.go:46", after := #[{ on := 7, ground := Ground.data }, { on := 6, ground := Ground.data }, { on := 3, ground := Ground.chain }, { on := 0, ground := Ground.phase }, { on := 1, ground := Ground.phase }, { on := 2, ground := Ground.phase }, { on := 3, ground := Ground.phase }, { on := 4, ground := Ground.phase }, { on := 5, ground := Ground.phase }, { on := 6, ground := Ground.phase }, { on := 7, ground := Ground.phase }], guard := none }) (by kernel_rfl) rfl (by kernel_rfl) ?_
        with_reducible refine op_storeAll (ty := 33) (x := .tmp 7) (y := .tmp 18) ?_ ?_ W3.heap.size (headL (sumP xs) n).toArray ?_ ?_ hz3 ?_ ?_ hone39 ?_
        · rfl
        · rfl
        · kernel_rfl
        · kernel_rfl
        · rw [hsz39]; kernel_rfl
        · rw [hsz39]; rfl
        intro W9 hW9
        have hb9 : Below w2.heap.size w2 W9 := by rw [hW9]; exact below_setRow h4 h3.size _
        have hr9 : W9.heap[W3.heap.size]? = some (.cells (headL (sumP xs) n).toArray 33 (0, 0)) := by rw [hW9]; exact setRow_heap _ _ _ _ _ _ hz3
        clear hW9
        refine ⟨hb9, ?_⟩
        refine rg_done (by kernel_rfl) ⟨rfl, ?_⟩ _
        exact ⟨W3.heap.size, w2.heap.size, hb9, h3.size, hr9, rfl⟩
      · have h2 := h1.alloc h1.size (.cells zeroR 33)
        refine op_ok (v := .pointer (some ⟨(w2.drew.alloc (.cells #[.slice A n c] 23)).heap.size, 0, none⟩)) (w' := (w2.drew.alloc (.cells #[.slice A n c] 23)).alloc (.cells zeroR 33)) ({ tmps := #[.slice A n c, .int .u8 lie, undef, undef, .pointer (some ⟨w.heap.size, 0, none⟩), .pointer (some ⟨vb, 0, none⟩), .int .i64 0, .pointer (some ⟨(w2.drew.alloc (.cells #[.slice A n c] 23)).heap.size, 0, none⟩), .tuple #[.agg #[.int .i64 1, .int .i64 0, .int .i64 0, .slice none 0 0], .int .i64 0], .tuple #[.agg #[.int .i64 1, .int .i64 0, .int .i64 0, .slice none 0 0], .int .i64 0], .agg #[.int .i64 1, .int .i64 0, .int .i64 0, .slice none 0 0], .int .i64 0, .agg #[.int .i64 1, .int .i64 0, .int .i64 0, .slice none 0 0], .slice A n c, .slice (some ⟨w2.drew.heap.size, 0, none⟩) 1 1, undef, .slice A n c, .int .i64 (n : Int), undef, undef, undef, undef, undef, undef, undef, undef, undef, undef, undef, undef, undef, undef, undef, undef, undef, undef, undef, undef, undef, undef, undef, undef, undef, undef, undef, undef], defers := [] }) (by kernel_rfl) (by kernel_rfl) ⟨h2, ?_⟩
        refine rg_one 3 (oi := { dst := some 15, op := Op.call { callee := Callee.value (Operand.func 22), args := #[Operand.tmp 14], argTypes := #[67] }, type := 30, pos := "law.go:46", after := #[{ on := 2, ground := Ground.data }], guard := none }) (by kernel_rfl) rfl (by kernel_rfl) ?_
        have hq : ((w2.drew.alloc (.cells #[.slice A n c] 23)).alloc (.cells zeroR 33)).heap[w2.heap.size]? = some (.cells #[.slice A n c] 23 (0, 0)) := (Below.heap_alloc _ _ _ (by simp)).trans (heap_alloc_new w2.drew _)
        have hz : ((w2.drew.alloc (.cells #[.slice A n c] 23)).alloc (.cells zeroR 33)).heap[(w2.drew.alloc (.cells #[.slice A n c] 23)).heap.size]? = some (.cells zeroR 33 (0, 0)) := heap_alloc_new (w2.drew.alloc (.cells #[.slice A n c] 23)) (.cells zeroR 33)
        refine op_call (v := .agg (bys (sumP xs))) (f := 22) (args := #[.slice (some ⟨w2.heap.size, 0, none⟩) 1 1]) ({ tmps := #[.slice A n c, .int .u8 lie, undef, undef, .pointer (some ⟨w.heap.size, 0, none⟩), .pointer (some ⟨vb, 0, none⟩), .int .i64 0, .pointer (some ⟨(w2.drew.alloc (.cells #[.slice A n c] 23)).heap.size, 0, none⟩), .tuple #[.agg #[.int .i64 1, .int .i64 0, .int .i64 0, .slice none 0 0], .int .i64 0], .tuple #[.agg #[.int .i64 1, .int .i64 0, .int .i64 0, .slice none 0 0], .int .i64 0], .agg #[.int .i64 1, .int .i64 0, .int .i64 0, .slice none 0 0], .int .i64 0, .agg #[.int .i64 1, .int .i64 0, .int .i64 0, .slice none 0 0], .slice A n c, .slice (some ⟨w2.drew.heap.size, 0, none⟩) 1 1, .agg (bys (sumP xs)), .slice A n c, .int .i64 (n : Int), undef, undef, undef, undef, undef, undef, undef, undef, undef, undef, undef, undef, undef, undef, undef, undef, undef, undef, undef, undef, undef, undef, undef, undef, undef, undef, undef, undef], defers := [] }) (by kernel_rfl) (of_one A n c xs Hn.out hc w hL ((w2.drew.alloc (.cells #[.slice A n c] 23)).alloc (.cells zeroR 33)) w2.heap.size _ HR (hb2.trans (h2.mono hb2.size)) hq) (by kernel_rfl) ?_
        intro W3 hc3
        have h3 := h2.trans (hc3.mono h2.size)
        refine ⟨h3, ?_⟩
        have hz3 : W3.heap[(w2.drew.alloc (.cells #[.slice A n c] 23)).heap.size]? = some (.cells zeroR 33 (0, 0)) := by rw [hc3.block _ (row_lt hz)]; exact hz
        refine rg_pure 6 (oi := { dst := some 18, op := Op.build 33 #[(0, Operand.const (Value.string { data := #[97] })), (1, Operand.tmp 12), (2, Operand.tmp 15), (3, Operand.tmp 17)], type := 33, pos := "law.go:46", after := #[{ on := 0, ground := Ground.data }, { on := 3, ground := Ground.data }, { on := 5, ground := Ground.data }], guard := none }) (.agg (headL (sumP xs) n).toArray) ({ tmps := #[.slice A n c, .int .u8 lie, undef, undef, .pointer (some ⟨w.heap.size, 0, none⟩), .pointer (some ⟨vb, 0, none⟩), .int .i64 0, .pointer (some ⟨(w2.drew.alloc (.cells #[.slice A n c] 23)).heap.size, 0, none⟩), .tuple #[.agg #[.int .i64 1, .int .i64 0, .int .i64 0, .slice none 0 0], .int .i64 0], .tuple #[.agg #[.int .i64 1, .int .i64 0, .int .i64 0, .slice none 0 0], .int .i64 0], .agg #[.int .i64 1, .int .i64 0, .int .i64 0, .slice none 0 0], .int .i64 0, .agg #[.int .i64 1, .int .i64 0, .int .i64 0, .slice none 0 0], .slice A n c, .slice (some ⟨w2.drew.heap.size, 0, none⟩) 1 1, .agg (bys (sumP xs)), .slice A n c, .int .i64 (n : Int), .agg (headL (sumP xs) n).toArray, undef, undef, undef, undef, undef, undef, undef, undef, undef, undef, undef, undef, undef, undef, undef, undef, undef, undef, undef, undef, undef, undef, undef, undef, undef, undef, undef], defers := [] }) rfl (by kernel_rfl) (by kernel_rfl) (by kernel_rfl) (by kernel_rfl) (fun W => ex_build _ _ 33 _ rfl _ (headL (sumP xs) n).toArray (by kernel_rfl) (row_built _ _ (sumP_len xs)) W) (by kernel_rfl) h3 ?_
        refine rg_one 8 (oi := { dst := none, op := Op.store 33 (Operand.tmp 7) (Operand.tmp 18), type := 0, pos := "law.go:46", after := #[{ on := 7, ground := Ground.data }, { on := 6, ground := Ground.data }, { on := 3, ground := Ground.chain }, { on := 0, ground := Ground.phase }, { on := 1, ground := Ground.phase }, { on := 2, ground := Ground.phase }, { on := 3, ground := Ground.phase }, { on := 4, ground := Ground.phase }, { on := 5, ground := Ground.phase }, { on := 6, ground := Ground.phase }, { on := 7, ground := Ground.phase }], guard := none }) (by kernel_rfl) rfl (by kernel_rfl) ?_
        with_reducible refine op_storeAll (ty := 33) (x := .tmp 7) (y := .tmp 18) ?_ ?_ (w2.drew.alloc (.cells #[.slice A n c] 23)).heap.size (headL (sumP xs) n).toArray ?_ ?_ hz3 ?_ ?_ hone39 ?_
        · rfl
        · rfl
        · kernel_rfl
        · kernel_rfl
        · rw [hsz39]; kernel_rfl
        · rw [hsz39]; rfl
        intro W9 hW9
        have hb9 : Below w2.heap.size w2 W9 := by rw [hW9]; exact below_setRow h3 h1.size _
        have hr9 : W9.heap[(w2.drew.alloc (.cells #[.slice A n c] 23)).heap.size]? = some (.cells (headL (sumP xs) n).toArray 33 (0, 0)) := by rw [hW9]; exact setRow_heap _ _ _ _ _ _ hz3
        clear hW9
        refine ⟨hb9, ?_⟩
        refine rg_done (by kernel_rfl) ⟨rfl, ?_⟩ _
        exact ⟨(w2.drew.alloc (.cells #[.slice A n c] 23)).heap.size, w2.heap.size, hb9, h1.size, hr9, rfl⟩
    · have h1 := h0.alloc h0.size (.cells zeroR 33)
      refine op_ok (v := .pointer (some ⟨w2.drew.heap.size, 0, none⟩)) (w' := w2.drew.alloc (.cells zeroR 33)) ({ tmps := #[.slice A n c, .int .u8 lie, undef, undef, .pointer (some ⟨w.heap.size, 0, none⟩), .pointer (some ⟨vb, 0, none⟩), .int .i64 0, .pointer (some ⟨w2.drew.heap.size, 0, none⟩), .tuple #[.agg #[.int .i64 1, .int .i64 0, .int .i64 0, .slice none 0 0], .int .i64 0], .tuple #[.agg #[.int .i64 1, .int .i64 0, .int .i64 0, .slice none 0 0], .int .i64 0], .agg #[.int .i64 1, .int .i64 0, .int .i64 0, .slice none 0 0], .int .i64 0, .agg #[.int .i64 1, .int .i64 0, .int .i64 0, .slice none 0 0], .slice A n c, undef, undef, .slice A n c, .int .i64 (n : Int), undef, undef, undef, undef, undef, undef, undef, undef, undef, undef, undef, undef, undef, undef, undef, undef, undef, undef, undef, undef, undef, undef, undef, undef, undef, undef, undef, undef], defers := [] }) (by kernel_rfl) (by kernel_rfl) ⟨h1, ?_⟩
      refine rg_one 2 (oi := { dst := some 14, op := Op.buildSlice 67 1 #[(0, Operand.tmp 13)], type := 67, pos := "law.go:46", after := #[{ on := 1, ground := Ground.data }], guard := none }) (by kernel_rfl) rfl (by kernel_rfl) ?_
      have h2 := h1.alloc h1.size (.cells #[.slice A n c] 23)
      refine op_ok (v := .slice (some ⟨(w2.drew.alloc (.cells zeroR 33)).heap.size, 0, none⟩) 1 1) (w' := (w2.drew.alloc (.cells zeroR 33)).alloc (.cells #[.slice A n c] 23)) ({ tmps := #[.slice A n c, .int .u8 lie, undef, undef, .pointer (some ⟨w.heap.size, 0, none⟩), .pointer (some ⟨vb, 0, none⟩), .int .i64 0, .pointer (some ⟨w2.drew.heap.size, 0, none⟩), .tuple #[.agg #[.int .i64 1, .int .i64 0, .int .i64 0, .slice none 0 0], .int .i64 0], .tuple #[.agg #[.int .i64 1, .int .i64 0, .int .i64 0, .slice none 0 0], .int .i64 0], .agg #[.int .i64 1, .int .i64 0, .int .i64 0, .slice none 0 0], .int .i64 0, .agg #[.int .i64 1, .int .i64 0, .int .i64 0, .slice none 0 0], .slice A n c, .slice (some ⟨(w2.drew.alloc (.cells zeroR 33)).heap.size, 0, none⟩) 1 1, undef, .slice A n c, .int .i64 (n : Int), undef, undef, undef, undef, undef, undef, undef, undef, undef, undef, undef, undef, undef, undef, undef, undef, undef, undef, undef, undef, undef, undef, undef, undef, undef, undef, undef, undef], defers := [] }) (by kernel_rfl) (by kernel_rfl) ⟨h2, ?_⟩
      have hz : ((w2.drew.alloc (.cells zeroR 33)).alloc (.cells #[.slice A n c] 23)).heap[w2.heap.size]? = some (.cells zeroR 33 (0, 0)) := (Below.heap_alloc _ _ _ (by simp)).trans (heap_alloc_new w2.drew _)
      have hq : ((w2.drew.alloc (.cells zeroR 33)).alloc (.cells #[.slice A n c] 23)).heap[(w2.drew.alloc (.cells zeroR 33)).heap.size]? = some (.cells #[.slice A n c] 23 (0, 0)) := heap_alloc_new (w2.drew.alloc (.cells zeroR 33)) (.cells #[.slice A n c] 23)
      refine rg_one 3 (oi := { dst := some 15, op := Op.call { callee := Callee.value (Operand.func 22), args := #[Operand.tmp 14], argTypes := #[67] }, type := 30, pos := "law.go:46", after := #[{ on := 2, ground := Ground.data }], guard := none }) (by kernel_rfl) rfl (by kernel_rfl) ?_
      refine op_call (v := .agg (bys (sumP xs))) (f := 22) (args := #[.slice (some ⟨(w2.drew.alloc (.cells zeroR 33)).heap.size, 0, none⟩) 1 1]) ({ tmps := #[.slice A n c, .int .u8 lie, undef, undef, .pointer (some ⟨w.heap.size, 0, none⟩), .pointer (some ⟨vb, 0, none⟩), .int .i64 0, .pointer (some ⟨w2.drew.heap.size, 0, none⟩), .tuple #[.agg #[.int .i64 1, .int .i64 0, .int .i64 0, .slice none 0 0], .int .i64 0], .tuple #[.agg #[.int .i64 1, .int .i64 0, .int .i64 0, .slice none 0 0], .int .i64 0], .agg #[.int .i64 1, .int .i64 0, .int .i64 0, .slice none 0 0], .int .i64 0, .agg #[.int .i64 1, .int .i64 0, .int .i64 0, .slice none 0 0], .slice A n c, .slice (some ⟨(w2.drew.alloc (.cells zeroR 33)).heap.size, 0, none⟩) 1 1, .agg (bys (sumP xs)), .slice A n c, .int .i64 (n : Int), undef, undef, undef, undef, undef, undef, undef, undef, undef, undef, undef, undef, undef, undef, undef, undef, undef, undef, undef, undef, undef, undef, undef, undef, undef, undef, undef, undef], defers := [] }) (by kernel_rfl) (of_one A n c xs Hn.out hc w hL ((w2.drew.alloc (.cells zeroR 33)).alloc (.cells #[.slice A n c] 23)) (w2.drew.alloc (.cells zeroR 33)).heap.size _ HR (hb2.trans (h2.mono hb2.size)) hq) (by kernel_rfl) ?_
      intro W3 hc3
      have h3 := h2.trans (hc3.mono h2.size)
      refine ⟨h3, ?_⟩
      have hz3 : W3.heap[w2.heap.size]? = some (.cells zeroR 33 (0, 0)) := by rw [hc3.block _ (row_lt hz)]; exact hz
      refine rg_pure 6 (oi := { dst := some 18, op := Op.build 33 #[(0, Operand.const (Value.string { data := #[97] })), (1, Operand.tmp 12), (2, Operand.tmp 15), (3, Operand.tmp 17)], type := 33, pos := "law.go:46", after := #[{ on := 0, ground := Ground.data }, { on := 3, ground := Ground.data }, { on := 5, ground := Ground.data }], guard := none }) (.agg (headL (sumP xs) n).toArray) ({ tmps := #[.slice A n c, .int .u8 lie, undef, undef, .pointer (some ⟨w.heap.size, 0, none⟩), .pointer (some ⟨vb, 0, none⟩), .int .i64 0, .pointer (some ⟨w2.drew.heap.size, 0, none⟩), .tuple #[.agg #[.int .i64 1, .int .i64 0, .int .i64 0, .slice none 0 0], .int .i64 0], .tuple #[.agg #[.int .i64 1, .int .i64 0, .int .i64 0, .slice none 0 0], .int .i64 0], .agg #[.int .i64 1, .int .i64 0, .int .i64 0, .slice none 0 0], .int .i64 0, .agg #[.int .i64 1, .int .i64 0, .int .i64 0, .slice none 0 0], .slice A n c, .slice (some ⟨(w2.drew.alloc (.cells zeroR 33)).heap.size, 0, none⟩) 1 1, .agg (bys (sumP xs)), .slice A n c, .int .i64 (n : Int), .agg (headL (sumP xs) n).toArray, undef, undef, undef, undef, undef, undef, undef, undef, undef, undef, undef, undef, undef, undef, undef, undef, undef, undef, undef, undef, undef, undef, undef, undef, undef, undef, undef], defers := [] }) rfl (by kernel_rfl) (by kernel_rfl) (by kernel_rfl) (by kernel_rfl) (fun W => ex_build _ _ 33 _ rfl _ (headL (sumP xs) n).toArray (by kernel_rfl) (row_built _ _ (sumP_len xs)) W) (by kernel_rfl) h3 ?_
      refine rg_one 8 (oi := { dst := none, op := Op.store 33 (Operand.tmp 7) (Operand.tmp 18), type := 0, pos := "law.go:46", after := #[{ on := 7, ground := Ground.data }, { on := 6, ground := Ground.data }, { on := 3, ground := Ground.chain }, { on := 0, ground := Ground.phase }, { on := 1, ground := Ground.phase }, { on := 2, ground := Ground.phase }, { on := 3, ground := Ground.phase }, { on := 4, ground := Ground.phase }, { on := 5, ground := Ground.phase }, { on := 6, ground := Ground.phase }, { on := 7, ground := Ground.phase }], guard := none }) (by kernel_rfl) rfl (by kernel_rfl) ?_
      with_reducible refine op_storeAll (ty := 33) (x := .tmp 7) (y := .tmp 18) ?_ ?_ w2.heap.size (headL (sumP xs) n).toArray ?_ ?_ hz3 ?_ ?_ hone39 ?_
      · rfl
      · rfl
      · kernel_rfl
      · kernel_rfl
      · rw [hsz39]; kernel_rfl
      · rw [hsz39]; rfl
      intro W9 hW9
      have hb9 : Below w2.heap.size w2 W9 := by rw [hW9]; exact below_setRow h3 (Nat.le_refl _) _
      have hr9 : W9.heap[w2.heap.size]? = some (.cells (headL (sumP xs) n).toArray 33 (0, 0)) := by rw [hW9]; exact setRow_heap _ _ _ _ _ _ hz3
      clear hW9
      refine ⟨hb9, ?_⟩
      refine rg_done (by kernel_rfl) ⟨rfl, ?_⟩ _
      exact ⟨w2.heap.size, (w2.drew.alloc (.cells zeroR 33)).heap.size, hb9, (Nat.le_refl _), hr9, rfl⟩
  · rintro a' W ⟨rb, b, hB, hrb, hrow, rfl⟩
    have hlw : w.heap.size < w2.heap.size := row_lt Hr2.out
    have hr0 : W.heap[w.heap.size]? = some (.cells zeroR 33 (0, 0)) := by rw [hB.block _ hlw]; exact Hr2.out
    have hbW : Below w.heap.size w W := hb2.trans (hB.mono hb2.size)
    have hl32 := sumP_len xs
    generalize sumP xs = sum at *
    have c5 : W.cell? ⟨rb, 5, none⟩ = some (.int .u8 (sum.getD 0 0)) := (cell_of_row _ _ 5 _ _ _ hrow).trans (headL_at5 _ hl32)
    have c37 : W.cell? ⟨rb, 37, none⟩ = some (.int .i64 n) := (cell_of_row _ _ 37 _ _ _ hrow).trans (headL_at37 _ hl32)
    have hf : ∀ i, W.frozen? ⟨rb, i, none⟩ = false := fun i => frozen_of_row W rb i _ _ hrow
    have hset5 : ∀ x, (W.setCell ⟨rb, 5, none⟩ (.int .u8 x)).heap[rb]? = some (.cells (headL (sum.set 0 x) n).toArray 33 (0, 0)) := fun x => by rw [heap_setCell_same W rb 5 _ _ _ hrow, headL_set5 _ _ hl32]
    have hset37 : ∀ x, (W.setCell ⟨rb, 37, none⟩ (.int .i64 x)).heap[rb]? = some (.cells (headL sum x).toArray 33 (0, 0)) := fun x => by rw [heap_setCell_same W rb 37 _ _ _ hrow, headL_set37 _ _ hl32]
    have hoth : ∀ i x, (W.setCell ⟨rb, i, none⟩ x).heap[w.heap.size]? = some (.cells zeroR 33 (0, 0)) := fun i x => by rw [heap_setCell_other W ⟨rb, i, none⟩ _ _ (by simp; omega)]; exact hr0
    have hbs : ∀ i x, Below w.heap.size w (W.setCell ⟨rb, i, none⟩ x) := fun i x => hbW.setCell (by simp; omega) _
    have Hset5 := keep hset5
    have Hset37 := keep hset37
    have Hoth := keep hoth
    have Hbs := keep hbs
    have Hrow := keep hrow
    have Hr0 := keep hr0
    have HbW := keep hbW
    have Hl32 := keep hl32
    clear hset5 hset37 hoth hbs hrow hr0 hbW hl32 hsz39 hone39
    rcases (by omega : lie % 6 = 0 ∨ lie % 6 = 1 ∨ lie % 6 = 2 ∨ lie % 6 = 3 ∨ lie % 6 = 4 ∨ lie % 6 = 5) with hk | hk | hk | hk | hk | hk
    · have t1 : (lie % 6 == 1) = false := by simp [hk]
      have t2 : (lie % 6 == 2) = false := by simp [hk]
      have t3 : (lie % 6 == 3) = false := by simp [hk]
      have t4 : (lie % 6 == 4) = false := by simp [hk]
      have Hsz : Keep ((headL sum (n : Int)).toArray.size = 39) := ⟨headL_length Hl32.out⟩
      have HinF : Keep ((Try.prog.info? 33).map (·.size) = some (headL sum (n : Int)).toArray.size) := ⟨by rw [Hsz.out]; kernel_rfl⟩
      have Hp : Keep (lieSum sum (lie % 6) = sum ∧ lieSize n (lie % 6) = (n : Int)) := ⟨by rw [hk]; exact ⟨rfl, rfl⟩⟩
      have Hkk := keep hk
      clear hk
      go_wp2_with (first | (refine wpList_load_row rfl 33 (.tmp 7) rfl rb rfl 33 (headL sum (n : Int)).toArray (0, 0) _ Hrow.out Try.underlying33 rfl HinF.out ?_) | (refine wpList_store_row rfl 33 (.tmp 4) (.tmp 45) rfl w.heap.size (headL sum (n : Int)).toArray rfl rfl 33 _ Hr0.out HinF.out (by rw [Hsz.out]; rfl) (headL_one _ _) ?_))
      refine bodyPost_ret (results_cell_row (p := 4) (ty := 33) rfl _ _ w.heap.size 33 (headL sum (n : Int)).toArray (0, 0) _ rfl (setRow_heap _ _ _ _ _ _ Hr0.out) Try.underlying33 rfl HinF.out) rfl ⟨by rw [Hp.out.1, Hp.out.2], below_setRow HbW.out (Nat.le_refl _) _⟩
    · have t1 : (lie % 6 == 1) = true := by simp [hk]
      have t2 : (lie % 6 == 2) = false := by simp [hk]
      have t3 : (lie % 6 == 3) = false := by simp [hk]
      have t4 : (lie % 6 == 4) = false := by simp [hk]
      have Hsz : Keep ((headL (sum.set 0 (bits BinOp.xor IntKind.u8 (sum[0]?.getD 0) 1)) (n : Int)).toArray.size = 39) := ⟨headL_length (by rw [List.length_set]; exact Hl32.out)⟩
      have HinF : Keep ((Try.prog.info? 33).map (·.size) = some (headL (sum.set 0 (bits BinOp.xor IntKind.u8 (sum[0]?.getD 0) 1)) (n : Int)).toArray.size) := ⟨by rw [Hsz.out]; kernel_rfl⟩
      have Hp : Keep (lieSum sum (lie % 6) = (sum.set 0 (bits BinOp.xor IntKind.u8 (sum[0]?.getD 0) 1)) ∧ lieSize n (lie % 6) = (n : Int)) := ⟨by rw [hk]; exact ⟨by simp [lieSum], rfl⟩⟩
      have Hkk := keep hk
      clear hk
      go_wp2_with (first | (refine wpList_load_row rfl 33 (.tmp 7) rfl rb rfl 33 (headL (sum.set 0 (bits BinOp.xor IntKind.u8 (sum[0]?.getD 0) 1)) (n : Int)).toArray (0, 0) _ (Hset5.out _) Try.underlying33 rfl HinF.out ?_) | (refine wpList_store_row rfl 33 (.tmp 4) (.tmp 45) rfl w.heap.size (headL (sum.set 0 (bits BinOp.xor IntKind.u8 (sum[0]?.getD 0) 1)) (n : Int)).toArray rfl rfl 33 _ (Hoth.out _ _) HinF.out (by rw [Hsz.out]; rfl) (headL_one _ _) ?_))
      refine bodyPost_ret (results_cell_row (p := 4) (ty := 33) rfl _ _ w.heap.size 33 (headL (sum.set 0 (bits BinOp.xor IntKind.u8 (sum[0]?.getD 0) 1)) (n : Int)).toArray (0, 0) _ rfl (setRow_heap _ _ _ _ _ _ (Hoth.out _ _)) Try.underlying33 rfl HinF.out) rfl ⟨by rw [Hp.out.1, Hp.out.2], below_setRow (Hbs.out _ _) (Nat.le_refl _) _⟩
    · have t1 : (lie % 6 == 1) = false := by simp [hk]
      have t2 : (lie % 6 == 2) = true := by simp [hk]
      have t3 : (lie % 6 == 3) = false := by simp [hk]
      have t4 : (lie % 6 == 4) = false := by simp [hk]
      have Hsz : Keep ((headL sum ((n : Int) + 5)).toArray.size = 39) := ⟨headL_length Hl32.out⟩
      have HinF : Keep ((Try.prog.info? 33).map (·.size) = some (headL sum ((n : Int) + 5)).toArray.size) := ⟨by rw [Hsz.out]; kernel_rfl⟩
      have Hp : Keep (lieSum sum (lie % 6) = sum ∧ lieSize n (lie % 6) = ((n : Int) + 5)) := ⟨by rw [hk]; exact ⟨rfl, rfl⟩⟩
      have Hkk := keep hk
      clear hk
      go_wp2_with (first | (refine wpList_load_row rfl 33 (.tmp 7) rfl rb rfl 33 (headL sum ((n : Int) + 5)).toArray (0, 0) _ (Hset37.out _) Try.underlying33 rfl HinF.out ?_) | (refine wpList_store_row rfl 33 (.tmp 4) (.tmp 45) rfl w.heap.size (headL sum ((n : Int) + 5)).toArray rfl rfl 33 _ (Hoth.out _ _) HinF.out (by rw [Hsz.out]; rfl) (headL_one _ _) ?_))
      refine bodyPost_ret (results_cell_row (p := 4) (ty := 33) rfl _ _ w.heap.size 33 (headL sum ((n : Int) + 5)).toArray (0, 0) _ rfl (setRow_heap _ _ _ _ _ _ (Hoth.out _ _)) Try.underlying33 rfl HinF.out) rfl ⟨by rw [Hp.out.1, Hp.out.2], below_setRow (Hbs.out _ _) (Nat.le_refl _) _⟩
    · by_cases h5 : (n : Int) - 5 < 0
      · have t1 : (lie % 6 == 1) = false := by simp [hk]
        have t2 : (lie % 6 == 2) = false := by simp [hk]
        have t3 : (lie % 6 == 3) = true := by simp [hk]
        have t4 : (lie % 6 == 4) = false := by simp [hk]
        have Hsz : Keep ((headL sum 0).toArray.size = 39) := ⟨headL_length Hl32.out⟩
        have HinF : Keep ((Try.prog.info? 33).map (·.size) = some (headL sum 0).toArray.size) := ⟨by rw [Hsz.out]; kernel_rfl⟩
        have Hp : Keep (lieSum sum (lie % 6) = sum ∧ lieSize n (lie % 6) = 0) := ⟨by rw [hk]; exact ⟨rfl, by show max ((n : Int) - 5) 0 = 0; omega⟩⟩
        have Hkk := keep hk
        clear hk
        go_wp2_with (first | (refine wpList_load_row rfl 33 (.tmp 7) rfl rb rfl 33 (headL sum 0).toArray (0, 0) _ (Hset37.out _) Try.underlying33 rfl HinF.out ?_) | (refine wpList_store_row rfl 33 (.tmp 4) (.tmp 45) rfl w.heap.size (headL sum 0).toArray rfl rfl 33 _ (Hoth.out _ _) HinF.out (by rw [Hsz.out]; rfl) (headL_one _ _) ?_))
        refine bodyPost_ret (results_cell_row (p := 4) (ty := 33) rfl _ _ w.heap.size 33 (headL sum 0).toArray (0, 0) _ rfl (setRow_heap _ _ _ _ _ _ (Hoth.out _ _)) Try.underlying33 rfl HinF.out) rfl ⟨by rw [Hp.out.1, Hp.out.2], below_setRow (Hbs.out _ _) (Nat.le_refl _) _⟩
      · have t1 : (lie % 6 == 1) = false := by simp [hk]
        have t2 : (lie % 6 == 2) = false := by simp [hk]
        have t3 : (lie % 6 == 3) = true := by simp [hk]
        have t4 : (lie % 6 == 4) = false := by simp [hk]
        have Hsz : Keep ((headL sum ((n : Int) - 5)).toArray.size = 39) := ⟨headL_length Hl32.out⟩
        have HinF : Keep ((Try.prog.info? 33).map (·.size) = some (headL sum ((n : Int) - 5)).toArray.size) := ⟨by rw [Hsz.out]; kernel_rfl⟩
        have Hp : Keep (lieSum sum (lie % 6) = sum ∧ lieSize n (lie % 6) = ((n : Int) - 5)) := ⟨by rw [hk]; exact ⟨rfl, by show max ((n : Int) - 5) 0 = (n : Int) - 5; omega⟩⟩
        have Hkk := keep hk
        clear hk
        go_wp2_with (first | (refine wpList_load_row rfl 33 (.tmp 7) rfl rb rfl 33 (headL sum ((n : Int) - 5)).toArray (0, 0) _ (Hset37.out _) Try.underlying33 rfl HinF.out ?_) | (refine wpList_store_row rfl 33 (.tmp 4) (.tmp 45) rfl w.heap.size (headL sum ((n : Int) - 5)).toArray rfl rfl 33 _ (Hoth.out _ _) HinF.out (by rw [Hsz.out]; rfl) (headL_one _ _) ?_))
        refine bodyPost_ret (results_cell_row (p := 4) (ty := 33) rfl _ _ w.heap.size 33 (headL sum ((n : Int) - 5)).toArray (0, 0) _ rfl (setRow_heap _ _ _ _ _ _ (Hoth.out _ _)) Try.underlying33 rfl HinF.out) rfl ⟨by rw [Hp.out.1, Hp.out.2], below_setRow (Hbs.out _ _) (Nat.le_refl _) _⟩
    · have t1 : (lie % 6 == 1) = false := by simp [hk]
      have t2 : (lie % 6 == 2) = false := by simp [hk]
      have t3 : (lie % 6 == 3) = false := by simp [hk]
      have t4 : (lie % 6 == 4) = true := by simp [hk]
      have Hsz : Keep ((headL sum (-3)).toArray.size = 39) := ⟨headL_length Hl32.out⟩
      have HinF : Keep ((Try.prog.info? 33).map (·.size) = some (headL sum (-3)).toArray.size) := ⟨by rw [Hsz.out]; kernel_rfl⟩
      have Hp : Keep (lieSum sum (lie % 6) = sum ∧ lieSize n (lie % 6) = (-3)) := ⟨by rw [hk]; exact ⟨rfl, rfl⟩⟩
      have Hkk := keep hk
      clear hk
      go_wp2_with (first | (refine wpList_load_row rfl 33 (.tmp 7) rfl rb rfl 33 (headL sum (-3)).toArray (0, 0) _ (Hset37.out _) Try.underlying33 rfl HinF.out ?_) | (refine wpList_store_row rfl 33 (.tmp 4) (.tmp 45) rfl w.heap.size (headL sum (-3)).toArray rfl rfl 33 _ (Hoth.out _ _) HinF.out (by rw [Hsz.out]; rfl) (headL_one _ _) ?_))
      refine bodyPost_ret (results_cell_row (p := 4) (ty := 33) rfl _ _ w.heap.size 33 (headL sum (-3)).toArray (0, 0) _ rfl (setRow_heap _ _ _ _ _ _ (Hoth.out _ _)) Try.underlying33 rfl HinF.out) rfl ⟨by rw [Hp.out.1, Hp.out.2], below_setRow (Hbs.out _ _) (Nat.le_refl _) _⟩
    · have t1 : (lie % 6 == 1) = false := by simp [hk]
      have t2 : (lie % 6 == 2) = false := by simp [hk]
      have t3 : (lie % 6 == 3) = false := by simp [hk]
      have t4 : (lie % 6 == 4) = false := by simp [hk]
      have Hsz : Keep ((headL sum (n : Int)).toArray.size = 39) := ⟨headL_length Hl32.out⟩
      have HinF : Keep ((Try.prog.info? 33).map (·.size) = some (headL sum (n : Int)).toArray.size) := ⟨by rw [Hsz.out]; kernel_rfl⟩
      have Hp : Keep (lieSum sum (lie % 6) = sum ∧ lieSize n (lie % 6) = (n : Int)) := ⟨by rw [hk]; exact ⟨rfl, rfl⟩⟩
      have Hkk := keep hk
      clear hk
      go_wp2_with (first | (refine wpList_load_row rfl 33 (.tmp 7) rfl rb rfl 33 (headL sum (n : Int)).toArray (0, 0) _ Hrow.out Try.underlying33 rfl HinF.out ?_) | (refine wpList_store_row rfl 33 (.tmp 4) (.tmp 45) rfl w.heap.size (headL sum (n : Int)).toArray rfl rfl 33 _ Hr0.out HinF.out (by rw [Hsz.out]; rfl) (headL_one _ _) ?_))
      refine bodyPost_ret (results_cell_row (p := 4) (ty := 33) rfl _ _ w.heap.size 33 (headL sum (n : Int)).toArray (0, 0) _ rfl (setRow_heap _ _ _ _ _ _ Hr0.out) Try.underlying33 rfl HinF.out) rfl ⟨by rw [Hp.out.1, Hp.out.2], below_setRow HbW.out (Nat.le_refl _) _⟩
end Go.Proofs.Ytmfgcdfemhaieaa
