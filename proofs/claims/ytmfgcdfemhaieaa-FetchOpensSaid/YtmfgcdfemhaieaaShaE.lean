/- Contracts of the reference's padding. -/
import Derived.Test.YtmfgcdfemhaieaaShaB
namespace Go.Proofs.Ytmfgcdfemhaieaa
open Go.RowKit

def padZ (L : Nat) : Nat := (119 - L % 64) % 64
def padTo (text : List Int) (j : Nat) : List Int := text ++ [128] ++ List.replicate j 0
theorem padTo_length (text : List Int) (j : Nat) : (padTo text j).length = text.length + 1 + j := by simp [padTo]; omega
theorem padTo_next (text : List Int) (j : Nat) : padTo text j ++ [0] = padTo text (j + 1) := by simp [padTo, List.replicate_succ']
/-- Byte q of the eight that tell the length in bits. -/
def beAt (n q : Nat) : Int := (n : Int) * 8 / 2 ^ (8 * (7 - q)) % 256
def beTo (n m : Nat) : List Int := (List.range m).map (beAt n)
theorem beTo_next (n m : Nat) : beTo n m ++ [beAt n m] = beTo n (m + 1) := by simp [beTo, List.range_succ]
def padP (text : List Int) : List Int := padTo text (padZ text.length) ++ beTo text.length 8

theorem info5 : (Try.prog.info? 5).map (fun i => (i.zero, i.size, i.bytes)) = some (some (.int .u8 0), 1, 1) := by kernel_rfl

def PadPost (text : List Int) (w : World) (e : Ending) (w' : World) : Prop := ∃ v, e = .returned v ∧ OwnI w' w.heap.size 5 .u8 v (padP text) ∧ Below w.heap.size w w'
set_option maxRecDepth 100000 in
set_option maxHeartbeats 1000000 in
theorem pad_any (A : Option Addr) (c : Nat) (text : List Int) (B : Nat) (w : World) (hL : text.length ≤ 1099511627776) (HR : RdI w B .u8 A text) :
    Calls Try.prog 55 #[.slice A text.length c] w (PadPost text w) := by
  go_enter Try.func55, Try.ntmps55
  go_wp2_with (at_builtin; refine wpList_append_ints (w0 := w) w.heap.size rfl (.const (.slice none 0 0)) (.tmp 6) 23 5 .u8 1 rfl Try.underlying23 info5 (.slice none 0 0) [] text B A text.length c rfl rfl rfl (OwnI.none_ w _ _ _) HR (Below.refl _ _) (Nat.le_refl _) (by omega) (by simp; omega) ?_)
  rintro v1 w1 hO1 hB1 _ _
  go_wp2_with (at_builtin; refine wpList_append_made (w0 := w) w.heap.size rfl (.tmp 7) (.tmp 8) 23 5 .u8 1 rfl Try.underlying23 info5 v1 text [128] 1 rfl rfl rfl hO1 hB1 hB1.size (by omega) (by omega) ?_)
  rintro v2 w2 hO2 hB2 _ _
  clear hO1 hB1
  go_wp2
  go_loopw [3] (fun v wr => ∃ j : Nat, j ≤ padZ text.length ∧ OwnI wr w.heap.size 5 .u8 v (padTo text j) ∧ Below w.heap.size w wr) (fun v _ => text.length + 1 + padZ text.length - lenOf v)
  case atStart => exact ⟨0, by omega, by simpa [padTo] using hO2, hB2⟩
  case round =>
    obtain ⟨j, hj, hO, hB⟩ := hrel
    obtain ⟨A3, c3, rfl, hc3, _⟩ := hO.slice
    have hn := padTo_length text j
    have hnext := padTo_next text j
    have Hdef : Keep (padTo text (padZ text.length) ++ beTo text.length 8 = padP text) := ⟨rfl⟩
    by_cases hlt : j < padZ text.length
    · generalize padTo text j = xs at *
      obtain ⟨n, hn'⟩ : ∃ n, xs.length = n := ⟨_, rfl⟩
      rw [hn'] at hn hO hc3 ⊢
      have ht : (((n : Int) % 64) != 56) = true := by rw [bne_iff_ne]; unfold padZ at hlt; omega
      have hjz : padZ text.length ≤ 63 := by unfold padZ; omega
      have hnle : n ≤ 1099511628000 := by omega
      have HN := keep hn
      have HN' := keep hn'
      have Hnext := keep hnext
      clear hn hn' hnext hO2 hB2
      go_wp2_with (at_builtin; refine wpList_append_made (w0 := w) (W := wr) w.heap.size rfl (.tmp 14) (.tmp 15) 23 5 .u8 1 rfl Try.underlying23 info5 (.slice A3 n c3) xs [0] 1 rfl rfl rfl hO hB hB.size (by omega) (by rw [HN'.out]; omega) ?_)
      rintro v3 w3 hO3 hB3 _ _
      rw [Hnext.out] at hO3
      go_wp2
      go_roundw
      case rel => exact ⟨j + 1, by omega, hO3, hB3⟩
      case measure =>
        obtain ⟨A4, c4, rfl, _, _⟩ := hO3.slice
        rw [padTo_length]
        have := HN.out
        simp only [lenOf]
        omega
    · obtain rfl : j = padZ text.length := by omega
      generalize padTo text (padZ text.length) = xs at *
      obtain ⟨n, hn'⟩ : ∃ n, xs.length = n := ⟨_, rfl⟩
      rw [hn'] at hn hO hc3 ⊢
      have ht : (((n : Int) % 64) != 56) = false := by rw [bne_eq_false_iff_eq]; unfold padZ at hn; omega
      have hjz : padZ text.length ≤ 63 := by unfold padZ; omega
      have hnle : n ≤ 1099511628000 := by omega
      have HN' := keep hn'
      clear hn hn' hnext hO2 hB2
      go_wp2
      go_loopw [3, 5] (fun v i wr => ∃ m : Nat, m ≤ 8 ∧ i = .int .i64 (7 - (m : Int)) ∧ OwnI wr w.heap.size 5 .u8 v (xs ++ beTo text.length m) ∧ Below w.heap.size w wr) (fun _ i _ => (intOf i + 1).toNat)
      case atStart => exact ⟨0, by omega, rfl, by simpa [beTo] using hO, hB⟩
      case round =>
        obtain ⟨m, hm, rfl, hO5, hB5⟩ := hrel
        by_cases hm8 : m < 8
        · have hnext := beTo_next text.length m
          have hbl : (xs ++ beTo text.length m).length ≤ 1099511628010 := by rw [List.length_append, HN'.out]; simp [beTo]; omega
          have hbn : (xs ++ beTo text.length m) ++ [(text.length : Int) * 8 / 2 ^ (8 * (7 - m)) % 256] = xs ++ beTo text.length (m + 1) := by rw [← hnext, List.append_assoc]; rfl
          obtain ⟨ys, hys⟩ : ∃ ys, xs ++ beTo text.length m = ys := ⟨_, rfl⟩
          rw [hys] at hO5 hbl hbn
          have Hbn := keep hbn
          clear hbn hys hnext
          obtain ⟨A5, c5, rfl, hc5, _⟩ := hO5.slice
          obtain ⟨p, hp⟩ : ∃ p, ys.length = p := ⟨_, rfl⟩
          rw [hp] at hO5 hbl hc5 ⊢
          have Hp := keep hp
          clear hp hO
          go_wp2_with (at_builtin; refine wpList_append_made (w0 := w) (W := wr) w.heap.size rfl (.tmp 25) (.tmp 31) 23 5 .u8 1 rfl Try.underlying23 info5 (.slice A5 p c5) ys [(text.length : Int) * 8 / 2 ^ (8 * (7 - m)) % 256] 1 rfl rfl rfl hO5 hB5 hB5.size (by omega) (by rw [Hp.out]; omega) ?_)
          rintro v6 w6 hO6 hB6 _ _
          rw [Hbn.out] at hO6
          go_wp2
          go_roundw
          case rel => exact ⟨m + 1, by omega, by go_num, hO6, hB6⟩
          case measure => simp [intOf]; omega
        · have hm8' : m = 8 := by omega
          rw [hm8', Hdef.out] at hO5
          clear hm8' hO
          go_wp2
          go_ret
          exact ⟨_, rfl, hO5, hB5⟩
end Go.Proofs.Ytmfgcdfemhaieaa
