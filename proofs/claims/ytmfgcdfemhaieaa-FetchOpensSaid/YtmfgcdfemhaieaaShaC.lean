import Derived.Test.YtmfgcdfemhaieaaShaB
import Derived.Laws.CopyOwn
import Derived.Deep.RegionLaw
namespace Go.Proofs.Ytmfgcdfemhaieaa
open Go.RowKit

def Loop1 (w : World) (B : Nat → Int) (k : Nat) (wr : World) : Prop := wr.heap[w.heap.size]? = some (.cells (vals (wordsTo B k)) 105 (0, 0)) ∧ Below w.heap.size w wr
def Loop2 (w w1 : World) (g : Nat) (B : Nat → Int) (ks hs : List Int) (k : Nat) (wr : World) : Prop :=
  wr.heap[g]? = some (.cells (vals (hs ++ ks)) 111 (0, 0)) ∧ wr.heap[w.heap.size]? = some (.cells (vals (wordsTo B 64)) 105 (0, 0)) ∧ wr.heap[w1.heap.size]? = some (.cells (vals (roundsTo ks (wordsTo B 64) hs k)) 104 (0, 0)) ∧ Below w.heap.size w wr
def Loop3 (w w1 : World) (g : Nat) (ks st hs : List Int) (k : Nat) (wr : World) : Prop :=
  wr.heap[g]? = some (.cells (vals (addTo st hs k ++ ks)) 111 (0, 0)) ∧ wr.heap[w1.heap.size]? = some (.cells (vals st) 104 (0, 0)) ∧ w.grownBy wr (some g)
theorem grown_here {w w' : World} {g : Nat} (h : w.grownBy w' (some g)) (k : Nat) (v : Value) : w.grownBy (w'.setCell ⟨g, k, none⟩ v).drew (some g) :=
  ⟨h.os, h.tape, h.output, by simpa [World.setCell, heap_drew] using h.size, fun i hi hne => (heap_setCell_other w' ⟨g, k, none⟩ i v (fun e => hne (congrArg some e))).trans (h.block i hi hne)⟩
def TurnPost (g : Nat) (ks hs : List Int) (B : Nat → Int) (w : World) (e : Ending) (w' : World) : Prop :=
  e = .returned (.tuple #[]) ∧ w'.heap[g]? = some (.cells (vals (turnP ks B hs ++ ks)) 111 (0, 0)) ∧ w.grownBy w' (some g)
theorem copy_down {W : World} {G : Nat} {a b c d e f g h : Int} (hs : W.heap[G]? = some (.cells (vals [a, b, c, d, e, f, g, h]) 104 (0, 0))) (m : Nat) :
    (Builtin.copy_ #[122, 122] 3 #[.slice (some ⟨G, 1, none⟩) 7 7, .slice (some ⟨G, 0, none⟩) 7 8]).run Try.prog (W.drewN m) = .ok (goInt 7) ((W.drewN m).setRow G (vals [a, a, b, c, d, e, f, g])) := by
  have hs' : (W.drewN m).heap[G]? = some (.cells (vals [a, b, c, d, e, f, g, h]) 104 (0, 0)) := hs
  refine run_copy_row (P := Try.prog) (W.drewN m) 122 122 3 103 G 1 7 7 ⟨G, 0, none⟩ 7 8 _ _ [.int .u32 a, .int .u32 b, .int .u32 c, .int .u32 d, .int .u32 e, .int .u32 f, .int .u32 g] Try.underlying122 (by kernel_rfl) hs' rfl ?_ (by simp [vals]) (by simp [Value.oneCell'])
  intro j v hv
  have hj : j < 7 := (List.getElem?_eq_some_iff.1 hv).1
  have hadd : (⟨G, 0, none⟩ : Addr).add j = ⟨G, j, none⟩ := by unfold Addr.add; split <;> simp_all
  rw [hadd, cell_of_row _ _ _ _ _ _ hs', ← hv]
  match j, hj with
  | 0, _ => rfl
  | 1, _ => rfl
  | 2, _ => rfl
  | 3, _ => rfl
  | 4, _ => rfl
  | 5, _ => rfl
  | 6, _ => rfl
set_option maxRecDepth 100000 in
set_option maxHeartbeats 4000000 in
theorem st_turn (g bb off n c : Nat) (hs ks : List Int) (B : Nat → Int) (w : World) (hhs : hs.length = 8) (hks : ks.length = 64) (hlen : 64 ≤ n) (hnc : n ≤ 140737488355328)
    (hg : w.heap[g]? = some (.cells (vals (hs ++ ks)) 111 (0, 0)))
    (hb : ∀ j, j < 64 → w.cell? ⟨bb, off + j, none⟩ = some (.int .u8 (B j))) :
    Calls Try.prog 59 #[.pointer (some ⟨g, 0, none⟩), .slice (some ⟨bb, off, none⟩) n c] w
      (TurnPost g ks hs B w) := by
  go_enter Try.func59, Try.ntmps59
  go_wp2
  go_loopw [16] (fun i wr => ∃ k : Nat, k ≤ 64 ∧ i = .int .i64 k ∧ Loop1 w B k wr) (fun i _ => 64 - (intOf i).toNat)
  case atStart => exact ⟨0, by omega, rfl, by rw [wordsTo, zeros64]; exact heap_alloc_new w _, (Below.refl _ _).alloc (Nat.le_refl _) _⟩
  case round =>
    obtain ⟨k, hk, rfl, hG, hB⟩ := hrel
    have hws := wordsTo_length B k
    by_cases h64 : k < 64
    · have cf : wr.frozen? ⟨w.heap.size, k, none⟩ = false := frozen_of_row wr _ _ _ _ hG
      have hcw : ∀ m : Nat, m < 64 → wr.cell? ⟨w.heap.size, m, none⟩ = some (.int .u32 ((wordsTo B k).getD m 0)) := fun m hm => row_cell hG (by omega)
      have cw := hcw k (by omega)
      have hnext : (wordsTo B (k + 1)) = (wordsTo B k).set k (nextW B (wordsTo B k) k) := rfl
      have hdef : nextW B (wordsTo B k) k = nextW B (wordsTo B k) k := rfl
      conv at hdef => rhs; unfold nextW
      generalize wordsTo B k = ws at *
      generalize hv : nextW B ws k = v at *
      clear hv
      by_cases h16 : k < 16
      · rw [if_pos h16] at hdef
        unfold wd at hdef
        have hbl : bb < w.heap.size := World.block_lt_of_cell? w _ (hb 0 (by omega))
        have c0 : wr.cell? ⟨bb, off + 4 * k, none⟩ = some (.int .u8 (B (4 * k))) := (hB.cell hbl).trans (hb _ (by omega))
        have c1 : wr.cell? ⟨bb, off + (4 * k + 1), none⟩ = some (.int .u8 (B (4 * k + 1))) := (hB.cell hbl).trans (hb _ (by omega))
        have c2 : wr.cell? ⟨bb, off + (4 * k + 2), none⟩ = some (.int .u8 (B (4 * k + 2))) := (hB.cell hbl).trans (hb _ (by omega))
        have c3 : wr.cell? ⟨bb, off + (4 * k + 3), none⟩ = some (.int .u8 (B (4 * k + 3))) := (hB.cell hbl).trans (hb _ (by omega))
        have Hnext := keep hnext
        have Hdef := keep hdef
        have HG := keep hG
        have HB := keep hB
        have Hws := keep hws
        have Hcw := keep hcw
        clear hnext hdef hG hB hws hcw hg hb
        go_wp2_with fail
        go_region
        go_wp2
        go_roundw
        case rel =>
          refine ⟨k + 1, by omega, by go_num, ?_, ?_⟩
          · rw [Hnext.out, Hdef.out]
            simpa [heap_drew] using row_set HG.out k _
          · exact (below_here HB.out k _).drew
        case measure => simp [intOf]; omega
      · rw [if_neg h16] at hdef
        unfold sg0 sg1 at hdef
        have c15 := hcw (k - 15) (by omega)
        have c2 := hcw (k - 2) (by omega)
        have c16 := hcw (k - 16) (by omega)
        have c7 := hcw (k - 7) (by omega)
        have Hnext := keep hnext
        have Hdef := keep hdef
        have HG := keep hG
        have HB := keep hB
        have Hws := keep hws
        clear hnext hdef hG hB hws hcw hg hb
        go_wp2_with fail
        go_quiet (fail)
        go_wp2_with (go_at_call 63; first | ((with_reducible refine (rot_7 _ _).mono ?_); rintro e w' ⟨rfl, rfl⟩) | ((with_reducible refine (rot_18 _ _).mono ?_); rintro e w' ⟨rfl, rfl⟩) | ((with_reducible refine (rot_17 _ _).mono ?_); rintro e w' ⟨rfl, rfl⟩) | ((with_reducible refine (rot_19 _ _).mono ?_); rintro e w' ⟨rfl, rfl⟩))
        go_region
        go_wp2
        go_roundw
        case rel =>
          refine ⟨k + 1, by omega, by go_num, ?_, ?_⟩
          · rw [Hnext.out, Hdef.out]
            simpa using row_set (W := wr.drewN (nq + 1)) HG.out k _
          · exact below_here (below_drewN' HB.out _) k _
        case measure => simp [intOf]; omega
    · have hk64 : k = 64 := by omega
      rw [hk64] at hG
      clear hk64
      obtain ⟨w1, rfl⟩ : ∃ w1 : World, w1 = wr := ⟨_, rfl⟩
      obtain ⟨a0, a1, a2, a3, a4, a5, a6, a7, rfl⟩ := eight hhs
      have hgl : g < w.heap.size := by
        rcases Nat.lt_or_ge g w.heap.size with h | h
        · exact h
        · rw [Array.getElem?_eq_none h] at hg; cases hg
      have hg1 : w1.heap[g]? = some (.cells (vals ([a0, a1, a2, a3, a4, a5, a6, a7] ++ ks)) 111 (0, 0)) := (hB.block g hgl).trans hg
      have q0 : w1.cell? ⟨g, 0, none⟩ = some (.int .u32 a0) := row_cell hg1 (by simp)
      have q1 : w1.cell? ⟨g, 1, none⟩ = some (.int .u32 a1) := row_cell hg1 (by simp)
      have q2 : w1.cell? ⟨g, 2, none⟩ = some (.int .u32 a2) := row_cell hg1 (by simp)
      have q3 : w1.cell? ⟨g, 3, none⟩ = some (.int .u32 a3) := row_cell hg1 (by simp)
      have q4 : w1.cell? ⟨g, 4, none⟩ = some (.int .u32 a4) := row_cell hg1 (by simp)
      have q5 : w1.cell? ⟨g, 5, none⟩ = some (.int .u32 a5) := row_cell hg1 (by simp)
      have q6 : w1.cell? ⟨g, 6, none⟩ = some (.int .u32 a6) := row_cell hg1 (by simp)
      have q7 : w1.cell? ⟨g, 7, none⟩ = some (.int .u32 a7) := row_cell hg1 (by simp)
      have HG := keep hG
      have HB := keep hB
      have Hg1 := keep hg1
      have Hks := keep hks
      clear hG hB hg1 hg hb hws hhs hks
      go_wp2
      go_loopw [100] (fun i wr => ∃ k : Nat, k ≤ 64 ∧ i = .int .i64 k ∧ Loop2 w w1 g B ks [a0, a1, a2, a3, a4, a5, a6, a7] k wr) (fun i _ => 64 - (intOf i).toNat)
      case atStart =>
        refine ⟨0, by omega, rfl, ?_, ?_, ?_, ?_⟩
        · rw [Below.heap_alloc _ _ _ (Nat.lt_of_lt_of_le hgl HB.out.size)]; exact Hg1.out
        · rw [Below.heap_alloc _ _ _ (row_lt HG.out)]; exact HG.out
        · exact heap_alloc_new _ _
        · exact HB.out.alloc HB.out.size _
      case round =>
        obtain ⟨k, hk, rfl, hg2, hG2, hs2, hB2⟩ := hrel
        have hlt1 := row_lt HG.out
        clear q0 q1 q2 q3 q4 q5 q6 q7
        by_cases h64 : k < 64
        · obtain ⟨a, b, c', d, e, f, g', h8, hst⟩ := eight (roundsTo_length ks (wordsTo B 64) [a0, a1, a2, a3, a4, a5, a6, a7] rfl k)
          have hnext : roundsTo ks (wordsTo B 64) [a0, a1, a2, a3, a4, a5, a6, a7] (k + 1) = round1 (ks.getD k 0) ((wordsTo B 64).getD k 0) [a, b, c', d, e, f, g', h8] := by rw [roundsTo, hst]
          rw [hst] at hs2
          have p0 : wr.cell? ⟨w1.heap.size, 0, none⟩ = some (.int .u32 a) := row_cell hs2 (by simp)
          have p1 : wr.cell? ⟨w1.heap.size, 1, none⟩ = some (.int .u32 b) := row_cell hs2 (by simp)
          have p2 : wr.cell? ⟨w1.heap.size, 2, none⟩ = some (.int .u32 c') := row_cell hs2 (by simp)
          have p4 : wr.cell? ⟨w1.heap.size, 4, none⟩ = some (.int .u32 e) := row_cell hs2 (by simp)
          have p5 : wr.cell? ⟨w1.heap.size, 5, none⟩ = some (.int .u32 f) := row_cell hs2 (by simp)
          have p6 : wr.cell? ⟨w1.heap.size, 6, none⟩ = some (.int .u32 g') := row_cell hs2 (by simp)
          have p7 : wr.cell? ⟨w1.heap.size, 7, none⟩ = some (.int .u32 h8) := row_cell hs2 (by simp)
          have pk : wr.cell? ⟨g, 8 + k, none⟩ = some (.int .u32 (ks.getD k 0)) := by
            have hh := row_cell hg2 (k := 8 + k) (by have := Hks.out; simp [this]; omega)
            rw [hh, List.getD_eq_getElem?_getD, List.getElem?_append_right (by simp), List.getD_eq_getElem?_getD]
            simp
          have pw : wr.cell? ⟨w.heap.size, k, none⟩ = some (.int .u32 ((wordsTo B 64).getD k 0)) := row_cell hG2 (by rw [wordsTo_length]; exact h64)
          obtain ⟨ws, hws⟩ : ∃ ws, wordsTo B 64 = ws := ⟨_, rfl⟩
          rw [hws] at pw hnext hG2
          have Hws := keep hws
          clear hws
          have Hnext := keep hnext
          have Hg2 := keep hg2
          have HG2 := keep hG2
          have Hs2 := keep hs2
          have HB2 := keep hB2
          clear hnext hg2 hG2 hs2 hB2 hst
          have hmax : IntKind.u32.max = 4294967295 := rfl
          have hsg : IntKind.u32.signed = false := rfl
          go_wp2_with fail
          go_quiet (fail)
          go_wp2_with (go_at_call 63; first | ((with_reducible refine (rot_6 _ _).mono ?_); rintro e w' ⟨rfl, rfl⟩) | ((with_reducible refine (rot_11 _ _).mono ?_); rintro e w' ⟨rfl, rfl⟩) | ((with_reducible refine (rot_25 _ _).mono ?_); rintro e w' ⟨rfl, rfl⟩))
          go_quiet (fail)
          go_wp2_with (go_at_call 63; first | ((with_reducible refine (rot_2 _ _).mono ?_); rintro e w' ⟨rfl, rfl⟩) | ((with_reducible refine (rot_13 _ _).mono ?_); rintro e w' ⟨rfl, rfl⟩) | ((with_reducible refine (rot_22 _ _).mono ?_); rintro e w' ⟨rfl, rfl⟩))
          have hcopy : ∀ m : Nat, (Builtin.copy_ #[122, 122] 3 #[.slice (some ⟨w1.heap.size, 1, none⟩) 7 7, .slice (some ⟨w1.heap.size, 0, none⟩) 7 8]).run Try.prog (wr.drewN m) = .ok (goInt 7) ((wr.drewN m).setRow w1.heap.size (vals [a, a, b, c', d, e, f, g'])) := fun m => copy_down Hs2.out m
          go_region
          clear hcopy p0 p1 p2 p4 p5 p6 p7 pk pw
          generalize hw3 : (wr.drewN _).setRow _ _ = w3
          have hB3 : Below w.heap.size w w3 := by rw [← hw3]; exact below_setRow (below_drewN' HB2.out _) (Nat.le_of_lt hlt1) _
          have hs3 : w3.heap[w1.heap.size]? = some (.cells (vals [a, a, b, c', d, e, f, g']) 104 (0, 0)) := by rw [← hw3]; exact setRow_heap _ _ _ _ _ _ Hs2.out
          have hG3 : w3.heap[w.heap.size]? = some (.cells (vals ws) 105 (0, 0)) := by rw [← hw3, setRow_other _ _ _ _ (by omega)]; exact HG2.out
          have hg3 : w3.heap[g]? = some (.cells (vals ([a0, a1, a2, a3, a4, a5, a6, a7] ++ ks)) 111 (0, 0)) := by rw [← hw3, setRow_other _ _ _ _ (by omega)]; exact Hg2.out
          have p0 : w3.cell? ⟨w1.heap.size, 0, none⟩ = some (.int .u32 a) := row_cell hs3 (by simp)
          have p4 : w3.cell? ⟨w1.heap.size, 4, none⟩ = some (.int .u32 d) := row_cell hs3 (by simp)
          have f0 : w3.frozen? ⟨w1.heap.size, 0, none⟩ = false := frozen_of_row _ _ _ _ _ hs3
          have f4 : w3.frozen? ⟨w1.heap.size, 4, none⟩ = false := frozen_of_row _ _ _ _ _ hs3
          have HB3 := keep hB3
          have Hs3 := keep hs3
          have HG3 := keep hG3
          have Hg3 := keep hg3
          clear hw3 hB3 hs3 hG3 hg3 Hs2 HB2 HG2 Hg2 HB HG Hg1
          go_wp2
          go_roundw
          case rel =>
            refine ⟨k + 1, by omega, by go_num, ?_, ?_, ?_, ?_⟩
            · rw [heap_setCell_other _ _ _ _ (by simp; omega), heap_setCell_other _ _ _ _ (by simp; omega)]; exact Hg3.out
            · rw [heap_setCell_other _ _ _ _ (by simp; omega), heap_setCell_other _ _ _ _ (by simp; omega), Hws.out]; exact HG3.out
            · rw [Hws.out, Hnext.out]; exact row_set (row_set Hs3.out 0 _) 4 _
            · exact (HB3.out.setCell (Nat.le_of_lt hlt1) _).setCell (Nat.le_of_lt hlt1) _
          case measure => simp [intOf]; omega
        · have hk64 : k = 64 := by omega
          rw [hk64] at hs2
          clear hk64
          have hst := roundsTo_length ks (wordsTo B 64) [a0, a1, a2, a3, a4, a5, a6, a7] rfl 64
          obtain ⟨st, hfin⟩ : ∃ st, roundsTo ks (wordsTo B 64) [a0, a1, a2, a3, a4, a5, a6, a7] 64 = st := ⟨_, rfl⟩
          rw [hfin] at hst hs2
          have Hfin := keep hfin
          have Hst := keep hst
          have Hg2 := keep hg2
          have Hs2 := keep hs2
          have HB2 := keep hB2
          clear hfin hst hg2 hG2 hs2 hB2 HB HG Hg1
          go_wp2
          go_loopw [179] (fun i w4 => ∃ k : Nat, k ≤ 8 ∧ i = .int .i64 k ∧ Loop3 w w1 g ks st [a0, a1, a2, a3, a4, a5, a6, a7] k w4) (fun i _ => 8 - (intOf i).toNat)
          case atStart => exact ⟨0, by omega, rfl, Hg2.out, Hs2.out, below_grownBy HB2.out _⟩
          case round =>
            obtain ⟨k, hk, rfl, hg3, hs3, hB3⟩ := hrel
            have hl := addTo_length st [a0, a1, a2, a3, a4, a5, a6, a7] k
            by_cases h8 : k < 8
            · have hnext : addTo st [a0, a1, a2, a3, a4, a5, a6, a7] (k + 1) = (addTo st [a0, a1, a2, a3, a4, a5, a6, a7] k).set k (((addTo st [a0, a1, a2, a3, a4, a5, a6, a7] k).getD k 0 + st.getD k 0) % 4294967296) := rfl
              generalize addTo st [a0, a1, a2, a3, a4, a5, a6, a7] k = hs at *
              have hl8 : hs.length = 8 := hl
              have pt : wr.cell? ⟨g, k, none⟩ = some (.int .u32 (hs.getD k 0)) := by
                rw [row_cell hg3 (k := k) (by simp; omega), List.getD_eq_getElem?_getD, List.getElem?_append_left (by omega), List.getD_eq_getElem?_getD]
              have ps : wr.cell? ⟨w1.heap.size, k, none⟩ = some (.int .u32 (st.getD k 0)) := row_cell hs3 (by have := Hst.out; omega)
              have pf : wr.frozen? ⟨g, k, none⟩ = false := frozen_of_row _ _ _ _ _ hg3
              have Hnext := keep hnext
              have Hg3 := keep hg3
              have Hs3 := keep hs3
              have HB3 := keep hB3
              have Hl8 := keep hl8
              clear hnext hg3 hs3 hB3 hl8 hl
              go_wp2_with fail
              go_region
              go_wp2
              go_roundw
              case rel =>
                refine ⟨k + 1, by omega, by go_num, ?_, ?_, ?_⟩
                · rw [Hnext.out]
                  have hr := row_set Hg3.out k ((hs.getD k 0 + st.getD k 0) % 4294967296)
                  rw [List.set_append_left _ _ (by have := Hl8.out; omega)] at hr
                  simpa [heap_drew] using hr
                · have := heap_setCell_other wr ⟨g, k, none⟩ w1.heap.size (.int .u32 ((hs.getD k 0 + st.getD k 0) % 4294967296)) (by simp; omega)
                  rw [Hs3.out] at this
                  simpa [heap_drew] using this
                · exact grown_here HB3.out k _
              case measure => simp [intOf]; omega
            · have hk8 : k = 8 := by omega
              rw [hk8] at hg3
              have Hg3 := keep hg3
              have HB3 := keep hB3
              clear hk8 hg3 hs3 hB3 hl
              go_wp2
              go_end0
              refine ⟨rfl, ?_, HB3.out⟩
              unfold turnP
              rw [Hfin.out]
              exact Hg3.out
end Go.Proofs.Ytmfgcdfemhaieaa
