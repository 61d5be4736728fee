/- The law of a sum's texts: the walk. -/
import Derived.Test.YtpgenmddanppoaaShaP
import Derived.Test.YtpgenmddanppoaaShaN
import Derived.Laws.IdiomStrings
namespace Go.Proofs.Ytpgenmddanppoaa
open Go.RowKit

/-- The bytes of a string as numbers. -/
def numsS (s : ByteArray) : List Int := s.data.toList.map fun b => ((b.toNat : Nat) : Int)
theorem numsS_length (s : ByteArray) : (numsS s).length = s.size := by
  simp [numsS]
theorem bytes_made (w : World) (s : ByteArray) (t : TypeId) (c : Nat) (fr : Nat × Nat) {k : Nat} (hk : k < s.size) : (w.alloc (.cells (bytesRow s c) t fr)).cell? ⟨w.heap.size, k, none⟩ = some (.int .u8 ((numsS s).getD k 0)) := by
  have hk' : k < s.data.toList.length := by simpa using hk
  rw [cell_of_row _ w.heap.size k _ _ _ (heap_alloc_new w _), bytesRow_at s c k hk]
  simp [numsS, List.getD_eq_getElem?_getD, hk]
theorem bytes_free (w : World) (s : ByteArray) (t : TypeId) (c : Nat) {k : Nat} (hk : k < s.size) : (w.alloc (.cells (bytesRow s c) t ((bytesRow s c).size, (bytesRow s c).size + 1))).frozen? ⟨w.heap.size, k, none⟩ = false := by
  have hsz : s.size ≤ (bytesRow s c).size := by simp [bytesRow]
  simp only [World.frozen?, heap_alloc_new]
  have : ¬ (bytesRow s c).size ≤ k := by omega
  simp [this]
theorem set_cells {W : World} {g k n : Nat} {ys : List Int} (hl : ys.length = n) (hk : k < n) (h : ∀ j, j < n → W.cell? ⟨g, j, none⟩ = some (.int .u8 (ys.getD j 0))) (v : Int) : ∀ j, j < n → (W.setCell ⟨g, k, none⟩ (.int .u8 v)).cell? ⟨g, j, none⟩ = some (.int .u8 ((ys.set k v).getD j 0)) := by
  intro j hj
  by_cases e : j = k
  · subst e
    rw [World.cell?_setCell_same W _ _ (h j hj)]
    simp [List.getD_eq_getElem?_getD, hl, hj]
  · rw [World.cell?_setCell_other W _ _ _ (fun (he : (⟨g, k, none⟩ : Addr) = ⟨g, j, none⟩) => e (by cases he; rfl)), h j hj]
    simp [List.getD_eq_getElem?_getD, Ne.symm e]

theorem wpList_load_row_if {P : Program} {ops : Array Oper} {rest : List Oper} {o : Oper} {a : Act} {w : World} {Q : Exit → Act → World → Prop} (hw : Region.wanted o (yielded ops a.tmps) = true) (ty : TypeId) (x : Operand) (ho : o.op = .load ty x)
    (g : Nat) (hx : a.eval x = .pointer (some ⟨g, 0, none⟩)) (t : TypeId) (cs : Array Value) (fr : Nat × Nat) (d : TypeDesc) (hg : w.heap[g]? = some (.cells cs t fr))
    (hu : P.underlying ty = some d) (hd : (match d with | .struct _ | .array _ _ => true | _ => false) = true) (hi : (P.info? ty).map (·.size) = some cs.size)
    (h : wpList P ops Q rest (a.put o.dst (.agg cs)) w) : wpList P ops Q (o :: rest) a w :=
  wpList_step fun K hK => by rw [if_pos hw]; exact wp_load_row ty x ho g hx t cs fr d hg hu hd hi (hK _ _ h)
theorem parseP_length (s : ByteArray) : (parseP s).1.length = 32 := by
  have h := parseTo_length s
  unfold parseP
  generalize parseTo s = f at *
  by_cases hc : s.size = 64 ∧ okTo s 64 = true
  · rw [if_pos hc]; exact h 64
  · rw [if_neg hc]; rfl

set_option maxRecDepth 100000 in
set_option maxHeartbeats 2000000 in
theorem texts_walk (key : List Int) (s : ByteArray) (m x : Int) (w : World) (hk : key.length = 32) (hr : ∀ i, 0 ≤ key.getD i 0 ∧ key.getD i 0 ≤ 255) (hx : 0 ≤ x ∧ x ≤ 255) :
    Calls Try.prog 5 #[.agg (bys key), .string s, .int .i64 m, .int .u8 x] w fun e w' => e = .returned (.bool true) ∧ Below w.heap.size w w' := by
  have Hk := keep hk
  have Hkr := keep hr
  have Hinf : Keep ((Try.prog.info? 25).map (·.size) = some (bys key).size) := ⟨by rw [show (bys key).size = 32 by simp [bys, hk]]; kernel_rfl⟩
  have hr1 : (w.alloc (.cells (bys key) 25)).heap[w.heap.size]? = some (.cells (bys key) 25 (0, 0)) := heap_alloc_new w _
  have hb1 : Below w.heap.size w (w.alloc (.cells (bys key) 25)) := (Below.refl _ _).alloc (Nat.le_refl _) _
  generalize hw1 : w.alloc (.cells (bys key) 25) = w1 at *
  have hkn := known_any w1
  have hlt1 := row_lt hr1
  have Hr1 := keep hr1
  clear hk hr hr1
  obtain ⟨x0, x1⟩ := hx
  go_enter Try.func5, Try.ntmps5
  go_wp2_with fail
  refine hkn.mono ?_
  rintro e w2 ⟨rfl, hB2⟩
  have hb2 := hb1.trans (hB2.mono hb1.size)
  have Hr2 : Keep (w2.heap[w.heap.size]? = some (.cells (bys key) 25 (0, 0))) := ⟨by rw [hB2.block _ hlt1]; exact Hr1.out⟩
  by_cases hs : s.size ≤ 200
  · have ht : decide ((200 : Int) < (s.size : Int)) = false := by simp; omega
    go_wp2_with (refine wpList_load_row rfl 25 (.tmp 4) rfl w.heap.size rfl 25 (bys key) (0, 0) _ Hr2.out Try.underlying25 rfl Hinf.out ?_)
    refine (hex_any key w2 Hk.out Hkr.out).mono ?_
    rintro e w3 ⟨rfl, hB3⟩
    have hb3 := hb2.trans (hB3.mono hb2.size)
    have Hr3 : Keep (w3.heap[w.heap.size]? = some (.cells (bys key) 25 (0, 0))) := ⟨by rw [hB3.block _ (row_lt Hr2.out)]; exact Hr2.out⟩
    have hDs : (strOfNums (hexTo key 32)).size = 64 := by rw [strOfNums_size, hexTo_length]
    have hrh := rhex_any key w3 Hk.out Hkr.out
    unfold HexPost at hrh
    generalize strOfNums (hexTo key 32) = D at *
    go_wp2_with (refine wpList_load_row rfl 25 (.tmp 4) rfl w.heap.size rfl 25 (bys key) (0, 0) _ Hr3.out Try.underlying25 rfl Hinf.out ?_)
    refine hrh.mono ?_
    rintro e w4 ⟨rfl, hB4⟩
    have hb4 := hb3.trans (hB4.mono hb3.size)
    have hcv := run_bytes_of_string (P := Try.prog) w4 9 24 5 D Try.underlying9 Try.underlying24 Try.underlying5
    have hc5 := fun j hj => bytes_made w4.drew D 5 (grownCap w4 D.size 0 5) ((bytesRow D (grownCap w4 D.size 0 5)).size, (bytesRow D (grownCap w4 D.size 0 5)).size + 1) (k := j) hj
    have hf5 := fun j hj => bytes_free w4.drew D 5 (grownCap w4 D.size 0 5) (k := j) hj
    have hb5 : Below w.heap.size w (w4.drew.alloc (.cells (bytesRow D (grownCap w4 D.size 0 5)) 5 ((bytesRow D (grownCap w4 D.size 0 5)).size, (bytesRow D (grownCap w4 D.size 0 5)).size + 1))) := hb4.drew.alloc hb4.size _
    have hlg := hb4.size
    have hln := numsS_length D
    rw [hDs] at hcv hln hc5 hf5 hb5
    generalize w4.drew.alloc (.cells (bytesRow D (grownCap w4 64 0 5)) 5 ((bytesRow D (grownCap w4 64 0 5)).size, (bytesRow D (grownCap w4 64 0 5)).size + 1)) = w5 at *
    generalize grownCap w4 64 0 5 = cap at *
    obtain ⟨k, hk64, hq⟩ : ∃ k : Nat, k < 64 ∧ (m.tmod 64 = k ∨ (m.tmod 64 = -(k : Int) ∧ 0 < k)) := by
      have h : (m.tmod 64).natAbs = m.natAbs % 64 := Int.natAbs_tmod m 64
      refine ⟨(m.tmod 64).natAbs, by omega, by omega⟩
    have hck : w5.cell? ⟨w4.heap.size, k, none⟩ = some (.int .u8 ((numsS D).getD k 0)) := hc5 k hk64
    have hfk : w5.frozen? ⟨w4.heap.size, k, none⟩ = false := hf5 k hk64
    have hki : (k : Int) < 64 := by omega
    have hw : wrap64 (k : Int) = k := by rw [wrap64]; omega
    have Hc5 : Keep (∀ j, j < 64 → w5.cell? ⟨w4.heap.size, j, none⟩ = some (.int .u8 ((numsS D).getD j 0))) := ⟨hc5⟩
    have Hln := keep hln
    have HDs := keep hDs
    clear hc5 hf5 hln
    generalize (numsS D).getD k 0 = y at *
    rcases hq with hq | ⟨hq, hkp⟩
    · have hneg : decide ((k : Int) < 0) = false := by simp
      go_wp2_with fail
      have hc6 := set_cells Hln.out hk64 Hc5.out (bits BinOp.xor IntKind.u8 y x)
      have hb6 : Below w.heap.size w (w5.setCell ⟨w4.heap.size, k, none⟩ (.int .u8 (bits BinOp.xor IntKind.u8 y x))) := hb5.setCell hlg _
      have hys : ((numsS D).set k (bits BinOp.xor IntKind.u8 y x)).length = 64 := by rw [List.length_set]; exact Hln.out
      generalize (numsS D).set k (bits BinOp.xor IntKind.u8 y x) = ys at *
      generalize hw6 : w5.setCell ⟨w4.heap.size, k, none⟩ (.int .u8 (bits BinOp.xor IntKind.u8 y x)) = w6 at *
      have hcv2 := run_convert_bytes_arg (P := Try.prog) w6.drew 24 5 Try.underlying24 Try.underlying5 w4.heap.size 0 64 cap ys hys (fun i hi => by simpa using hc6 i hi) 9 Try.underlying9
      generalize strOfNums ys = Y at *
      clear hc6 hys hcv hck hfk hw6
      have hsz63 : (63 : Int) ≤ (D.size : Int) := by omega
      have hcat : ¬ 9223372036854775807 < D.size + 1 := by omega
      clear hDs
      go_region
      have hb7 : Below w.heap.size w ((w6.alloc (.cells #[.string D, .string s, .string Y, .string (D ++ ⟨#[48]⟩), .string (D.extract 0 63)] 9)).drew) := (hb6.alloc hb6.size _).drew
      have hc7 : ∀ j, j < 5 → ((w6.alloc (.cells #[.string D, .string s, .string Y, .string (D ++ ⟨#[48]⟩), .string (D.extract 0 63)] 9)).drew).cell? ⟨w6.heap.size, j, none⟩ = some (.string ([D, s, Y, D ++ ⟨#[48]⟩, D.extract 0 63].getD j D)) := by
        intro j hj
        rw [cell_of_row (w6.alloc (.cells #[.string D, .string s, .string Y, .string (D ++ ⟨#[48]⟩), .string (D.extract 0 63)] 9)).drew w6.heap.size j _ _ _ (heap_alloc_new w6 _)]
        rcases (by omega : j = 0 ∨ j = 1 ∨ j = 2 ∨ j = 3 ∨ j = 4) with rfl | rfl | rfl | rfl | rfl <;> rfl
      have hlt7 : w6.heap.size < ((w6.alloc (.cells #[.string D, .string s, .string Y, .string (D ++ ⟨#[48]⟩), .string (D.extract 0 63)] 9)).drew).heap.size := row_lt (heap_alloc_new w6 _)
      generalize [D, s, Y, D ++ ⟨#[48]⟩, D.extract 0 63] = strs at *
      generalize hw7 : (w6.alloc (.cells #[.string D, .string s, .string Y, .string (D ++ ⟨#[48]⟩), .string (D.extract 0 63)] 9)).drew = w7 at *
      have Hc7 := keep hc7
      clear hc7 hw7
      go_wp2_with fail
      go_loopw [59] (fun i wr => ∃ j : Nat, j ≤ 5 ∧ i = .int .i64 j ∧ Below w7.heap.size w7 wr) (fun i _ => 5 - (intOf i).toNat)
      case atStart => exact ⟨0, by omega, rfl, Below.refl _ _⟩
      case round =>
        obtain ⟨j, hj, rfl, hB⟩ := hrel
        by_cases hjl : j < 5
        · have hcj : wr.cell? ⟨w6.heap.size, j, none⟩ = some (.string (strs.getD j D)) := (hB.cell hlt7).trans (Hc7.out j hjl)
          have hj5 : (j : Int) < 5 := by omega
          have htj : decide ((j : Int) < 5) = true := by simp; omega
          generalize strs.getD j D = st at *
          have hp1 := parse_any st wr
          have hp2 := rparse_any st
          have hpl := parseP_length st
          unfold ParsePost at hp1 hp2
          generalize parseP st = pp at *
          obtain ⟨pk, pb⟩ := pp
          simp only at hp1 hp2 hpl
          have Hpi : Keep ((Try.prog.info? 26).map (·.size) = some (bys pk).size) := ⟨by rw [show (bys pk).size = 32 by simp [bys, hpl]]; kernel_rfl⟩
          have Hps : Keep ((bys pk).size = 32) := ⟨by simp [bys, hpl]⟩
          have Hpo : Keep ((bys pk).all (·.oneCell') = true) := ⟨by simp [bys, Value.oneCell']⟩
          have hke := fun W => keys_same W hpl
          clear hpl
          go_wp2_with fail
          refine hp1.mono ?_
          rintro e v1 ⟨rfl, hV1⟩
          go_wp2_with (refine wpList_store_row rfl 26 (.tmp 14) (.tmp 66) rfl v1.heap.size (bys pk) rfl rfl 26 _ (heap_alloc_new v1 _) Hpi.out (by rw [Hps.out]; rfl) Hpo.out ?_)
          rw [setRow_alloc]
          have hrv : (v1.alloc (.cells (bys pk) 26)).heap[v1.heap.size]? = some (.cells (bys pk) 26 (0, 0)) := heap_alloc_new v1 _
          have hV2 : Below w7.heap.size w7 (v1.alloc (.cells (bys pk) 26)) := (hB.trans (hV1.mono hB.size)).alloc (Nat.le_trans hB.size hV1.size) _
          generalize v1.alloc (.cells (bys pk) 26) = v2 at *
          have Hrv := keep hrv
          clear hrv
          go_wp2_with fail
          refine (hp2 v2).mono ?_
          rintro e v3 ⟨rfl, hV3⟩
          have hv34 : Below v3.heap.size v3 (v3.alloc (.cells (bys pk) 26)) := (Below.refl _ _).alloc (Nat.le_refl _) _
          have hV4 : Below w7.heap.size w7 (v3.alloc (.cells (bys pk) 26)) := (hV2.trans (hV3.mono hV2.size)).alloc (Nat.le_trans hV2.size hV3.size) _
          have Hrv4 : Keep ((v3.alloc (.cells (bys pk) 26)).heap[v3.heap.size]? = some (.cells (bys pk) 26 (0, 0))) := ⟨heap_alloc_new v3 _⟩
          have Hrv2 : Keep ((v3.alloc (.cells (bys pk) 26)).heap[v1.heap.size]? = some (.cells (bys pk) 26 (0, 0))) := ⟨by rw [hv34.block _ (Nat.lt_of_lt_of_le (row_lt Hrv.out) hV3.size), hV3.block _ (row_lt Hrv.out)]; exact Hrv.out⟩
          go_wp2_with (first | (refine wpList_store_row rfl 26 (.tmp 16) (.tmp 71) rfl v3.heap.size (bys pk) rfl rfl 26 _ (heap_alloc_new v3 _) Hpi.out (by rw [Hps.out]; rfl) Hpo.out ?_; rw [setRow_alloc]) | (refine wpList_load_row_if (by rfl) 26 (.tmp 14) rfl v1.heap.size rfl 26 (bys pk) (0, 0) _ Hrv2.out Try.underlying26 rfl Hpi.out ?_) | (refine wpList_load_row_if (by rfl) 26 (.tmp 16) rfl v3.heap.size rfl 26 (bys pk) (0, 0) _ Hrv4.out Try.underlying26 rfl Hpi.out ?_))
          go_roundw
          case rel => exact ⟨j + 1, by omega, by go_num, hV4⟩
          case measure => simp [intOf]; omega
        · have htj : decide ((j : Int) < 5) = false := by simp; omega
          go_wp2_with fail
          go_ret
          exact ⟨rfl, hb7.trans (hB.mono hb7.size)⟩
    · have hneg : decide (-(k : Int) < 0) = true := by simp; omega
      go_wp2_with fail
      have hc6 := set_cells Hln.out hk64 Hc5.out (bits BinOp.xor IntKind.u8 y x)
      have hb6 : Below w.heap.size w (w5.setCell ⟨w4.heap.size, k, none⟩ (.int .u8 (bits BinOp.xor IntKind.u8 y x))) := hb5.setCell hlg _
      have hys : ((numsS D).set k (bits BinOp.xor IntKind.u8 y x)).length = 64 := by rw [List.length_set]; exact Hln.out
      generalize (numsS D).set k (bits BinOp.xor IntKind.u8 y x) = ys at *
      generalize hw6 : w5.setCell ⟨w4.heap.size, k, none⟩ (.int .u8 (bits BinOp.xor IntKind.u8 y x)) = w6 at *
      have hcv2 := run_convert_bytes_arg (P := Try.prog) w6.drew 24 5 Try.underlying24 Try.underlying5 w4.heap.size 0 64 cap ys hys (fun i hi => by simpa using hc6 i hi) 9 Try.underlying9
      generalize strOfNums ys = Y at *
      clear hc6 hys hcv hck hfk hw6
      have hsz63 : (63 : Int) ≤ (D.size : Int) := by omega
      have hcat : ¬ 9223372036854775807 < D.size + 1 := by omega
      clear hDs
      go_region
      have hb7 : Below w.heap.size w ((w6.alloc (.cells #[.string D, .string s, .string Y, .string (D ++ ⟨#[48]⟩), .string (D.extract 0 63)] 9)).drew) := (hb6.alloc hb6.size _).drew
      have hc7 : ∀ j, j < 5 → ((w6.alloc (.cells #[.string D, .string s, .string Y, .string (D ++ ⟨#[48]⟩), .string (D.extract 0 63)] 9)).drew).cell? ⟨w6.heap.size, j, none⟩ = some (.string ([D, s, Y, D ++ ⟨#[48]⟩, D.extract 0 63].getD j D)) := by
        intro j hj
        rw [cell_of_row (w6.alloc (.cells #[.string D, .string s, .string Y, .string (D ++ ⟨#[48]⟩), .string (D.extract 0 63)] 9)).drew w6.heap.size j _ _ _ (heap_alloc_new w6 _)]
        rcases (by omega : j = 0 ∨ j = 1 ∨ j = 2 ∨ j = 3 ∨ j = 4) with rfl | rfl | rfl | rfl | rfl <;> rfl
      have hlt7 : w6.heap.size < ((w6.alloc (.cells #[.string D, .string s, .string Y, .string (D ++ ⟨#[48]⟩), .string (D.extract 0 63)] 9)).drew).heap.size := row_lt (heap_alloc_new w6 _)
      generalize [D, s, Y, D ++ ⟨#[48]⟩, D.extract 0 63] = strs at *
      generalize hw7 : (w6.alloc (.cells #[.string D, .string s, .string Y, .string (D ++ ⟨#[48]⟩), .string (D.extract 0 63)] 9)).drew = w7 at *
      have Hc7 := keep hc7
      clear hc7 hw7
      go_wp2_with fail
      go_loopw [59] (fun i wr => ∃ j : Nat, j ≤ 5 ∧ i = .int .i64 j ∧ Below w7.heap.size w7 wr) (fun i _ => 5 - (intOf i).toNat)
      case atStart => exact ⟨0, by omega, rfl, Below.refl _ _⟩
      case round =>
        obtain ⟨j, hj, rfl, hB⟩ := hrel
        by_cases hjl : j < 5
        · have hcj : wr.cell? ⟨w6.heap.size, j, none⟩ = some (.string (strs.getD j D)) := (hB.cell hlt7).trans (Hc7.out j hjl)
          have hj5 : (j : Int) < 5 := by omega
          have htj : decide ((j : Int) < 5) = true := by simp; omega
          generalize strs.getD j D = st at *
          have hp1 := parse_any st wr
          have hp2 := rparse_any st
          have hpl := parseP_length st
          unfold ParsePost at hp1 hp2
          generalize parseP st = pp at *
          obtain ⟨pk, pb⟩ := pp
          simp only at hp1 hp2 hpl
          have Hpi : Keep ((Try.prog.info? 26).map (·.size) = some (bys pk).size) := ⟨by rw [show (bys pk).size = 32 by simp [bys, hpl]]; kernel_rfl⟩
          have Hps : Keep ((bys pk).size = 32) := ⟨by simp [bys, hpl]⟩
          have Hpo : Keep ((bys pk).all (·.oneCell') = true) := ⟨by simp [bys, Value.oneCell']⟩
          have hke := fun W => keys_same W hpl
          clear hpl
          go_wp2_with fail
          refine hp1.mono ?_
          rintro e v1 ⟨rfl, hV1⟩
          go_wp2_with (refine wpList_store_row rfl 26 (.tmp 14) (.tmp 66) rfl v1.heap.size (bys pk) rfl rfl 26 _ (heap_alloc_new v1 _) Hpi.out (by rw [Hps.out]; rfl) Hpo.out ?_)
          rw [setRow_alloc]
          have hrv : (v1.alloc (.cells (bys pk) 26)).heap[v1.heap.size]? = some (.cells (bys pk) 26 (0, 0)) := heap_alloc_new v1 _
          have hV2 : Below w7.heap.size w7 (v1.alloc (.cells (bys pk) 26)) := (hB.trans (hV1.mono hB.size)).alloc (Nat.le_trans hB.size hV1.size) _
          generalize v1.alloc (.cells (bys pk) 26) = v2 at *
          have Hrv := keep hrv
          clear hrv
          go_wp2_with fail
          refine (hp2 v2).mono ?_
          rintro e v3 ⟨rfl, hV3⟩
          have hv34 : Below v3.heap.size v3 (v3.alloc (.cells (bys pk) 26)) := (Below.refl _ _).alloc (Nat.le_refl _) _
          have hV4 : Below w7.heap.size w7 (v3.alloc (.cells (bys pk) 26)) := (hV2.trans (hV3.mono hV2.size)).alloc (Nat.le_trans hV2.size hV3.size) _
          have Hrv4 : Keep ((v3.alloc (.cells (bys pk) 26)).heap[v3.heap.size]? = some (.cells (bys pk) 26 (0, 0))) := ⟨heap_alloc_new v3 _⟩
          have Hrv2 : Keep ((v3.alloc (.cells (bys pk) 26)).heap[v1.heap.size]? = some (.cells (bys pk) 26 (0, 0))) := ⟨by rw [hv34.block _ (Nat.lt_of_lt_of_le (row_lt Hrv.out) hV3.size), hV3.block _ (row_lt Hrv.out)]; exact Hrv.out⟩
          go_wp2_with (first | (refine wpList_store_row rfl 26 (.tmp 16) (.tmp 71) rfl v3.heap.size (bys pk) rfl rfl 26 _ (heap_alloc_new v3 _) Hpi.out (by rw [Hps.out]; rfl) Hpo.out ?_; rw [setRow_alloc]) | (refine wpList_load_row_if (by rfl) 26 (.tmp 14) rfl v1.heap.size rfl 26 (bys pk) (0, 0) _ Hrv2.out Try.underlying26 rfl Hpi.out ?_) | (refine wpList_load_row_if (by rfl) 26 (.tmp 16) rfl v3.heap.size rfl 26 (bys pk) (0, 0) _ Hrv4.out Try.underlying26 rfl Hpi.out ?_))
          go_roundw
          case rel => exact ⟨j + 1, by omega, by go_num, hV4⟩
          case measure => simp [intOf]; omega
        · have htj : decide ((j : Int) < 5) = false := by simp; omega
          go_wp2_with fail
          go_ret
          exact ⟨rfl, hb7.trans (hB.mono hb7.size)⟩
  · have ht : decide ((200 : Int) < (s.size : Int)) = true := by simp; omega
    go_wp2_with fail
    go_ret
    exact ⟨rfl, hb2⟩
end Go.Proofs.Ytpgenmddanppoaa
