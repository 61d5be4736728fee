/- Texts as bytes: the writer; what is kept of a fetch. -/
import Derived.Test.YtmfgcdfemhaieaaFetO
import Derived.Lib.AppendStr
namespace Go.Proofs.Ytmfgcdfemhaieaa
open Go.RowKit

def byteL (s : ByteArray) : List Int := s.data.toList.map fun b => (b.toNat : Int)
theorem byteL_length (s : ByteArray) : (byteL s).length = s.size := by
  rw [byteL, List.length_map, Array.length_toList]
  rfl
theorem strCells_ints (s : ByteArray) : Lib.strCells s = ints .u8 (byteL s) := by
  unfold Lib.strCells ints byteL
  rw [List.map_map]
  rfl
set_option maxRecDepth 100000 in
set_option maxHeartbeats 2000000 in
theorem wtext_one (h : Nat) (bs : List Int) (sb : Nat) (s : ByteArray) (w : World) (hW : Wr w h bs) (hr : w.heap[sb]? = some (.cells #[.string s] 9 (0, 0))) (hL : bs.length ≤ 10995116277) (hs : s.size ≤ 10995116277) :
    Calls Try.prog 39 #[.pointer (some ⟨h, 0, none⟩), .slice (some ⟨sb, 0, none⟩) 1 1] w (WrPost h (bs ++ numP s.size ++ byteL s) w) := by
  have hc : w.cell? ⟨sb, 0, none⟩ = some (.string s) := cell_of_row _ _ 0 _ _ _ hr
  have HW := keep hW
  have hlt := hW.lt
  clear hW hr
  go_enter Try.func39, Try.ntmps39
  go_wp2
  refine wp_loop_rounds 2 ?_
  rw [rounds_succ]
  go_wp2_with fail
  have hb0 : Below w.heap.size w (w.alloc (.cells #[.int .u64 s.size] 54)) := (Below.refl _ _).alloc (Nat.le_refl _) _
  have hnum := wnum_any h bs w.heap.size 1 [s.size] (w.alloc (.cells #[.int .u64 s.size] 54)) (HW.out.below hb0 (Nat.le_refl _)) rfl (heap_alloc_new w _) (by omega) (by intro x hx; simp at hx; omega) (by omega) (by omega)
  have e1 : [s.size].flatMap numP = numP s.size := by simp
  rw [e1] at hnum
  have hnl := numP_len 9 s.size (by omega)
  have hbl : (bs ++ numP s.size).length ≤ 10995116287 := by rw [List.length_append]; omega
  obtain ⟨b1, hb1⟩ : ∃ b1, bs ++ numP s.size = b1 := ⟨_, rfl⟩
  rw [hb1] at hnum hbl
  have Hb1 := keep hb1
  clear e1 hb1 hnl
  refine hnum.mono ?_
  rintro e w1 ⟨rfl, hW1, hB1, hK1⟩
  obtain ⟨v, hrv, hO⟩ := hW1.st
  have hcv : w1.cell? ⟨h, 0, none⟩ = some v := cell_of_row _ _ 0 _ _ _ hrv
  have hlt1 := row_lt hrv
  have HO := keep hO
  have Hrv := keep hrv
  have HB1 := keep hB1
  have HK1 := keep hK1
  obtain ⟨i0, hi, hzz⟩ := Option.map_eq_some_iff.1 info5
  simp only [Prod.mk.injEq] at hzz
  obtain ⟨hz0, hz1, hz2⟩ := hzz
  have Hi := keep hi
  have Hz0 := keep hz0
  have Hz1 := keep hz1
  have Hz2 := keep hz2
  clear hO hrv hW1 hB1 hK1 hnum hi hz0 hz1 hz2
  go_wp2_with (at_builtin; refine Lib.wpList_append_own_string w1 rfl (.tmp 22) (.tmp 23) 23 9 rfl (h + 1) 5 i0 Try.underlying23 Try.underlying9 Hi.out Hz0.out Hz1.out Hz2.out v b1.length (ints .u8 b1) rfl HO.out.out s rfl (by simp only [maxLen]; omega) (by omega) hlt1 ?_)
  intro v2 w2 ho2 hg2 _
  have hO2 : OwnI w2 (h + 1) 5 .u8 v2 (b1 ++ byteL s) := by
    refine ⟨?_⟩
    rw [List.length_append, byteL_length]
    have e2 : ints .u8 (b1 ++ byteL s) = ints .u8 b1 ++ Lib.strCells s := by rw [strCells_ints]; simp [ints]
    rw [e2]
    exact ho2
  have hB2 : Below (h + 1) w1 w2 := (Below.refl _ _).grown hg2 hlt1 (own_base HO.out.out)
  have hr2 := (hB2.block _ (Nat.lt_succ_self h)).trans Hrv.out
  have hc2 : w2.cell? ⟨h, 0, none⟩ = some v := cell_of_row _ _ 0 _ _ _ hr2
  have hf2 := frozen_of_row w2 h 0 _ _ hr2
  have hK2 : KeptT h w w2 := ((KeptT.below hb0).trans HK1.out).trans (KeptT.own HO.out hg2)
  have hBb : Below h w w2 := ((hb0.mono (Nat.le_of_lt hlt)).trans HB1.out).trans (hB2.mono (Nat.le_succ h))
  have Hr2 := keep hr2
  have HO2 := keep hO2
  have HK2 := keep hK2
  have HBb := keep hBb
  obtain ⟨A2, c2, rfl, _, _⟩ := hO2.slice
  obtain ⟨n2, hn2⟩ : ∃ n2, (b1 ++ byteL s).length = n2 := ⟨_, rfl⟩
  have Hn2 := keep hn2
  rw [hn2]
  clear hr2 hO2 hK2 hB2 hg2 ho2 hBb hn2
  go_wp2_with fail
  rw [rounds_succ]
  go_wp2_with fail
  go_end0
  refine ⟨rfl, ?_, HBb.out.setCell (Nat.le_refl _) _, HK2.out.cell 0 _⟩
  rw [Hb1.out, ← Hn2.out]
  exact Wr.put Hr2.out rfl HO2.out rfl
set_option maxRecDepth 100000 in
theorem wbytes_any (h : Nat) (bs : List Int) (w : World) (hW : Wr w h bs) (hL : bs.length ≤ 1099511627776) :
    Calls Try.prog 41 #[.pointer (some ⟨h, 0, none⟩)] w (ClonePost bs w) := by
  obtain ⟨v, hr, hO⟩ := hW.st
  obtain ⟨A, c, rfl, _, hR⟩ := hO.slice
  have hcl := clone_bytes A bs.length c bs w.heap.size w rfl hR (Nat.le_refl _) hL
  have hc : w.cell? ⟨h, 0, none⟩ = some (.slice A bs.length c) := cell_of_row _ _ 0 _ _ _ hr
  have Hcl := keep hcl
  clear hW hr hO hR hcl
  go_enter Try.func41, Try.ntmps41
  go_wp2_with fail
  refine Hcl.out.mono ?_
  rintro e w1 ⟨A1, c1, rfl, hc1, hR1, hB1⟩
  have HR1 := keep hR1
  have Hc1 := keep hc1
  clear hR1
  go_wp2
  go_ret
  exact ⟨A1, c1, rfl, Hc1.out, HR1.out, hB1⟩
end Go.Proofs.Ytmfgcdfemhaieaa
