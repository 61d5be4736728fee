/- The reference's numbers and texts, written. -/
import Derived.Test.YtmfgcdfemhaieaaRound
namespace Go.Proofs.Ytmfgcdfemhaieaa
open Go.RowKit

/-- A row of the call's own comes back, longer. -/
def RowPost1 (B : Nat) (bs : List Int) (w : World) (e : Ending) (w' : World) : Prop := ∃ v, e = .returned v ∧ OwnI w' B 5 .u8 v bs ∧ Below B w w'
set_option maxRecDepth 100000 in
set_option maxHeartbeats 2000000 in
theorem refNum_any (B : Nat) (v0 : Value) (b0 : List Int) (X : Nat) (w : World) (hO : OwnI w B 5 .u8 v0 b0) (hB : B ≤ w.heap.size) (hX : X < 18446744073709551616) (hL : b0.length ≤ 1099511627776) :
    Calls Try.prog 14 #[v0, .int .u64 X] w (RowPost1 B (b0 ++ numP X) w) := by
  have hXl := numP_len 9 X (by omega)
  have HO := keep hO
  have HX := keep hX
  clear hO hX
  go_enter Try.func14, Try.ntmps14
  go_wp2
  go_loopw [0, 1] (fun v x wr => ∃ (v1 : Value) (y : Nat) (b1 : List Int), v1 = v ∧ x = .int .u64 y ∧ y ≤ X ∧ b1 ++ numP y = b0 ++ numP X ∧ OwnI wr B 5 .u8 v b1 ∧ Below B w wr ∧ B ≤ wr.heap.size) (fun _ x _ => (intOf x).toNat)
  case atStart => exact ⟨v0, X, b0, rfl, rfl, Nat.le_refl _, rfl, HO.out, Below.refl _ _, hB⟩
  case round =>
    obtain ⟨v, y, b1, rfl, rfl, hyX, hb1, hO1, hB1, hz⟩ := hrel
    have hl1 := congrArg List.length hb1
    rw [List.length_append, List.length_append] at hl1
    have hl1' : b1.length ≤ 1099511628800 := by omega
    have Hb1 := keep hb1
    have HB1 := keep hB1
    have HO1 := keep hO1
    clear hb1 hl1 hB1 hO1
    by_cases hy : y < 128
    · have ht2 : decide ((128 : Int) ≤ (y : Int)) = false := by simp; omega
      go_wp2_with (at_builtin; refine wpList_append_made (w0 := wr) (W := wr) B rfl (.tmp 15) (.tmp 18) 23 5 .u8 1 rfl Try.underlying23 info5 v b1 [(y : Int)] 1 rfl rfl rfl HO1.out (Below.refl _ _) hz (by omega) (by omega) ?_)
      rintro v2 w2 hO2 hB2 hg2 _
      have HO2 := keep hO2
      have HB2 := keep hB2
      clear hO2 hB2 hg2
      go_wp2_with fail
      go_ret
      have e := Hb1.out
      rw [numP_low hy] at e
      exact ⟨v2, rfl, by rw [← e]; exact HO2.out, HB1.out.trans HB2.out⟩
    · have ht2 : decide ((128 : Int) ≤ (y : Int)) = true := by simp; omega
      have hor := or128_of y
      go_wp2_with (at_builtin; refine wpList_append_made (w0 := wr) (W := wr) B rfl (.tmp 7) (.tmp 11) 23 5 .u8 1 rfl Try.underlying23 info5 v b1 [(y : Int) % 128 + 128] 1 rfl rfl rfl HO1.out (Below.refl _ _) hz (by omega) (by omega) ?_)
      rintro v2 w2 hO2 hB2 hg2 _
      have HO2 := keep hO2
      have HB2 := keep hB2
      clear hO2 hB2 hg2 hor
      go_wp2_with fail
      go_roundw
      case rel =>
        have e := Hb1.out
        rw [numP_high hy] at e
        have e2 : ((y % 128 : Nat) : Int) = (y : Int) % 128 := by omega
        rw [e2] at e
        exact ⟨v2, y / 128, b1 ++ [(y : Int) % 128 + 128], rfl, by go_num, by omega, by rw [List.append_assoc]; exact e, HO2.out, HB1.out.trans HB2.out, Nat.le_trans hz HB2.out.size⟩
      case measure => simp [intOf]; omega
set_option maxRecDepth 100000 in
set_option maxHeartbeats 2000000 in
theorem refText_nil (s : ByteArray) (w : World) (hs : s.size ≤ 1099511627776) :
    Calls Try.prog 15 #[.slice none 0 0, .string s] w (RowPost1 w.heap.size (numP s.size ++ byteL s) w) := by
  have hnum := refNum_any w.heap.size (.slice none 0 0) [] s.size w (OwnI.none_ _ _ _ _) (Nat.le_refl _) (by omega) (by simp)
  rw [List.nil_append] at hnum
  have hXl := numP_len 9 s.size (by omega)
  have Hnum := keep hnum
  clear hnum
  go_enter Try.func15, Try.ntmps15
  go_wp2_with fail
  refine Hnum.out.mono ?_
  rintro e w1 ⟨v, rfl, hO1, hB1⟩
  have Hz := keep hB1.size
  have HO1 := keep hO1
  have HB1 := keep hB1
  clear hO1 hB1 Hnum
  obtain ⟨b1, hb1⟩ : ∃ b1, numP s.size = b1 := ⟨_, rfl⟩
  rw [hb1] at HO1 hXl
  obtain ⟨i0, hi, hzz⟩ := Option.map_eq_some_iff.1 info5
  simp only [Prod.mk.injEq] at hzz
  obtain ⟨hz0, hz1, hz2⟩ := hzz
  have Hi := keep hi
  have Hz0 := keep hz0
  have Hz1 := keep hz1
  have Hz2 := keep hz2
  have Hb1 := keep hb1
  clear hb1 hi hz0 hz1 hz2
  go_wp2_with (at_builtin; refine Lib.wpList_append_own_string w1 rfl (.tmp 9) (.tmp 10) 23 9 rfl w.heap.size 5 i0 Try.underlying23 Try.underlying9 Hi.out Hz0.out Hz1.out Hz2.out v b1.length (ints .u8 b1) rfl HO1.out.out s rfl (by simp only [maxLen]; omega) (by omega) Hz.out ?_)
  intro v2 w2 ho2 hg2 _
  have hO2 : OwnI w2 w.heap.size 5 .u8 v2 (b1 ++ byteL s) := by
    refine ⟨?_⟩
    rw [List.length_append, byteL_length]
    have e2 : ints .u8 (b1 ++ byteL s) = ints .u8 b1 ++ Lib.strCells s := by rw [strCells_ints]; simp [ints]
    rw [e2]
    exact ho2
  have hB2 : Below w.heap.size w w2 := HB1.out.trans ((Below.refl _ _).grown hg2 Hz.out (own_base HO1.out.out))
  have HO2 := keep hO2
  have HB2 := keep hB2
  clear hO2 hB2 ho2 hg2
  go_wp2_with fail
  go_ret
  exact ⟨v2, rfl, by rw [Hb1.out]; exact HO2.out, HB2.out⟩
end Go.Proofs.Ytmfgcdfemhaieaa
