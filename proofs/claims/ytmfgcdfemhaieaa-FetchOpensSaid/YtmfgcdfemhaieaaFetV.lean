/- The reader's calls that may fail: Num, Text. -/
import Derived.Test.YtmfgcdfemhaieaaFetU
namespace Go.Proofs.Ytmfgcdfemhaieaa
open Go.RowKit

def NumC (q b2 : Nat) (bs : List Int) (w : World) (e : Ending) (w' : World) : Prop :=
  (∃ n r, numR 0 0 bs = (some n, r) ∧ n < 18446744073709551616 ∧ e = .returned (.tuple #[]) ∧ Rdr w' q r false ∧ Below q w w' ∧ w'.heap[b2]? = some (.cells #[.int .u64 n] 54 (0, 0)) ∧ ∀ k cs t fr, w.heap[k]? = some (.cells cs t fr) → k ≠ q → k ≠ b2 → t ≠ 5 → w'.heap[k]? = some (.cells cs t fr)) ∨
  (∃ r, numR 0 0 bs = (none, r) ∧ e = .panicked [{ v := stoppedV, recovered := false }] ∧ Rdr w' q r false ∧ Below q w w' ∧ KeptT q w w')
set_option maxRecDepth 100000 in
theorem numc_any (q b1 b2 : Nat) (x : Int) (bs : List Int) (w : World) (H : Rdr w q bs false) (hbs : ∀ x ∈ bs, 0 ≤ x ∧ x < 256) (h1 : w.heap[b1]? = some (.cells #[.pointer (some ⟨q, 0, none⟩)] 77 (0, 0))) (h2 : w.heap[b2]? = some (.cells #[.int .u64 x] 54 (0, 0))) (hq : q < b2) :
    Calls Try.prog 51 #[.pointer (some ⟨b1, 0, none⟩), .pointer (some ⟨b2, 0, none⟩)] w (NumC q b2 bs w) := by
  have hnum := num_any q bs w H hbs
  have c1 : w.cell? ⟨b1, 0, none⟩ = some (.pointer (some ⟨q, 0, none⟩)) := cell_of_row _ _ 0 _ _ _ h1
  have Hnum := keep hnum
  have H2 := keep h2
  clear H hbs hnum h1 h2
  go_enter Try.func51, Try.ntmps51
  go_wp2_with fail
  refine Hnum.out.mono ?_
  rintro e w1 (⟨n, r, hr, hn64, rfl, hR, hB, hK⟩ | ⟨r, hr, rfl, hR, hB, hK⟩)
  · have h2' := hK.out b2 _ _ _ H2.out (by omega) (by decide)
    have c2 : w1.cell? ⟨b2, 0, none⟩ = some (.int .u64 x) := cell_of_row _ _ 0 _ _ _ h2'
    have hf2 := frozen_of_row w1 b2 0 _ _ h2'
    have hpost : NumC q b2 bs w (.returned (.tuple #[])) (w1.setCell ⟨b2, 0, none⟩ (.int .u64 n)) := by
      refine .inl ⟨n, r, hr, hn64, rfl, ?_, hB.setCell (Nat.le_of_lt hq) _, ?_, ?_⟩
      · obtain ⟨A, c, hr, hc, hRd⟩ := hR.st
        exact ⟨⟨A, c, by rw [Below.heap_setCell w1 ⟨b2, 0, none⟩ _ q (by simp; omega)]; exact hr, hc, hRd.below ((Below.refl q w1).setCell (Nat.le_of_lt hq) _)⟩⟩
      · rw [heap_setCell_same w1 b2 0 _ _ _ h2']; rfl
      · intro k cs t fr hk hkq hk2 ht
        rw [Below.heap_setCell w1 ⟨b2, 0, none⟩ _ k (by simpa using hk2)]
        exact hK.out k cs t fr hk hkq ht
    have Hpost := keep hpost
    clear hpost hr hn64 hR hB hK h2' Hnum H2
    go_wp2_with fail
    go_end0
    exact Hpost.out
  · exact ⟨rfl, .inr ⟨r, hr, rfl, hR, hB, hK⟩⟩
def TryNum (q b2 : Nat) (bs : List Int) (fl : Bool) (w : World) (e : Ending) (w' : World) : Prop :=
  Below q w w' ∧
  ((fl = true ∧ e = .returned (.bool false) ∧ Rdr w' q bs true) ∨
   (fl = false ∧ ∃ n r, numR 0 0 bs = (some n, r) ∧ n < 18446744073709551616 ∧ e = .returned (.bool true) ∧ Rdr w' q r false ∧ w'.heap[b2]? = some (.cells #[.int .u64 n] 54 (0, 0))) ∨
   (fl = false ∧ ∃ r, numR 0 0 bs = (none, r) ∧ e = .returned (.bool false) ∧ Rdr w' q r true))
theorem Rdr.flag {W : World} {q : Nat} {bs : List Int} {fl : Bool} (H : Rdr W q bs fl) : Rdr (W.setCell ⟨q, 1, none⟩ (.bool true)) q bs true := by
  obtain ⟨A, c, hr, hc, hRd⟩ := H.st
  exact ⟨⟨A, c, by rw [heap_setCell_same W q 1 _ _ _ hr]; rfl, hc, hRd.below ((Below.refl q W).setCell (Nat.le_refl q) _)⟩⟩
set_option maxRecDepth 100000 in
set_option maxHeartbeats 1000000 in
theorem tryNum_any (q b1 b2 : Nat) (x : Int) (bs : List Int) (fl : Bool) (w : World) (H : Rdr w q bs fl) (hbs : ∀ x ∈ bs, 0 ≤ x ∧ x < 256) (h1 : w.heap[b1]? = some (.cells #[.pointer (some ⟨q, 0, none⟩)] 77 (0, 0))) (h2 : w.heap[b2]? = some (.cells #[.int .u64 x] 54 (0, 0))) (hq : q < b2) :
    Calls Try.prog 48 #[.pointer (some ⟨q, 0, none⟩), .func (.func 51) #[] #[.pointer (some ⟨b1, 0, none⟩), .pointer (some ⟨b2, 0, none⟩)]] w (TryNum q b2 bs fl w) := by
  have hmf : ∀ (fn : Fn) (first cap : Array Value) (w : World), (Instr.makeFunc fn first cap).run Try.prog w = .ok (.func fn first cap) w := fun _ _ _ _ => rfl
  obtain ⟨A, c, hr, _, _⟩ := H.st
  have c1 : w.cell? ⟨q, 1, none⟩ = some (.bool fl) := cell_of_row _ _ 1 _ _ _ hr
  have hlt := row_lt hr
  have HH := keep H
  have Hbs := keep hbs
  have H1 := keep h1
  have H2 := keep h2
  clear H hbs h1 h2 hr
  obtain ⟨wa, hwa⟩ : ∃ wa, (w.alloc (.cells #[.pointer (some ⟨q, 0, none⟩)] 77)).alloc (.cells #[.bool false] 4) = wa := ⟨_, rfl⟩
  have hba : Below w.heap.size w wa := by rw [← hwa]; exact ((Below.refl _ _).alloc (Nat.le_refl _) _).alloc (by simp) _
  have hr3 : wa.heap[w.heap.size]? = some (.cells #[.pointer (some ⟨q, 0, none⟩)] 77 (0, 0)) := by
    rw [← hwa, Below.heap_alloc _ _ _ (by simp)]
    exact heap_alloc_new w _
  have hr4 : wa.heap[w.heap.size + 1]? = some (.cells #[.bool false] 4 (0, 0)) := by
    rw [← hwa]
    have h := heap_alloc_new (w.alloc (.cells #[.pointer (some ⟨q, 0, none⟩)] 77)) (.cells #[.bool false] 4)
    rw [show (w.alloc (.cells #[.pointer (some ⟨q, 0, none⟩)] 77)).heap.size = w.heap.size + 1 by simp] at h
    exact h
  have Hwa := keep hwa
  have Hba := keep hba
  have Hr3 := keep hr3
  have Hr4 := keep hr4
  clear hwa hba hr3 hr4
  cases fl with
  | true =>
    have hpost : TryNum q b2 bs true w (.returned (.bool false)) wa := ⟨Hba.out.mono (Nat.le_of_lt hlt), .inl ⟨rfl, rfl, HH.out.below Hba.out hlt⟩⟩
    have Hpost := keep hpost
    clear hpost
    go_enter_defers Try.func48, Try.ntmps48
    go_wp2_with fail
    refine ⟨.bool false, ?_, ?_⟩
    · simp [results, Try.results48, go_sem]
    · rw [Hwa.out]
      exact Hpost.out
  | false =>
    have hnum := numc_any q b1 b2 x bs wa (HH.out.below Hba.out hlt) Hbs.out (by rw [Hba.out.block _ (row_lt H1.out)]; exact H1.out) (by rw [Hba.out.block _ (row_lt H2.out)]; exact H2.out) hq
    have hlt2 := row_lt H2.out
    have Hnum := keep hnum
    clear hnum
    go_enter_defers Try.func48, Try.ntmps48
    go_wp2_with fail
    rw [Hwa.out]
    refine Hnum.out.mono ?_
    rintro e w1 (⟨n, r, hr, hn64, rfl, hR, hB, h2, hK⟩ | ⟨r, hr, rfl, hR, hB, hK⟩)
    · have h4 := hK _ _ _ _ Hr4.out (by omega) (by omega) (by decide)
      have c4 : w1.cell? ⟨w.heap.size + 1, 0, none⟩ = some (.bool false) := cell_of_row _ _ 0 _ _ _ h4
      have hf4 := frozen_of_row w1 (w.heap.size + 1) 0 _ _ h4
      have hl4 := row_lt h4
      have hset : Below w.heap.size w1 (w1.setCell ⟨w.heap.size + 1, 0, none⟩ (.bool true)) := (Below.refl w.heap.size w1).setCell (Nat.le_succ _) _
      have hpost : TryNum q b2 bs false w (.returned (.bool true)) (w1.setCell ⟨w.heap.size + 1, 0, none⟩ (.bool true)) := by
        refine ⟨((Hba.out.mono (Nat.le_of_lt hlt)).trans hB).trans (hset.mono (Nat.le_of_lt hlt)), .inr (.inl ⟨rfl, n, r, hr, hn64, rfl, hR.below hset hlt, ?_⟩)⟩
        rw [hset.block _ hlt2]
        exact h2
      have c5 : (w1.setCell ⟨w.heap.size + 1, 0, none⟩ (.bool true)).cell? ⟨w.heap.size + 1, 0, none⟩ = some (.bool true) := by
        have h5 := heap_setCell_same w1 (w.heap.size + 1) 0 _ _ (.bool true) h4
        exact cell_of_row _ _ 0 _ _ _ h5
      have Hpost := keep hpost
      have C5 := keep c5
      clear hpost hset h4 hr hn64 hR hB h2 hK Hnum Hr3 Hr4 c5
      go_wp2_with fail
      refine leaves_cons (f := 61) (args := #[.pointer (some ⟨w.heap.size, 0, none⟩), .pointer (some ⟨w.heap.size + 1, 0, none⟩)]) (by simp) (by simp [go_sem]) ?_
      refine (catch_idle _ _ _).mono ?_
      rintro e u' w'' ⟨rfl, rfl, rfl⟩
      refine ⟨.bool true, ?_, Hpost.out⟩
      have C6 := C5.out
      simp [results, Try.results48, go_sem, C6]
    · have h3 := hK.out _ _ _ _ Hr3.out (by omega) (by decide)
      have h4 := hK.out _ _ _ _ Hr4.out (by omega) (by decide)
      have c3 : w1.cell? ⟨w.heap.size, 0, none⟩ = some (.pointer (some ⟨q, 0, none⟩)) := cell_of_row _ _ 0 _ _ _ h3
      have c4 : w1.cell? ⟨w.heap.size + 1, 0, none⟩ = some (.bool false) := cell_of_row _ _ 0 _ _ _ h4
      have hf4 := frozen_of_row w1 (w.heap.size + 1) 0 _ _ h4
      obtain ⟨A5, k5, h5, _, _⟩ := hR.st
      have c5 : w1.cell? ⟨q, 1, none⟩ = some (.bool false) := cell_of_row _ _ 1 _ _ _ h5
      have hf5 := frozen_of_row w1 q 1 _ _ h5
      refine leaves_cons (f := 61) (args := #[.pointer (some ⟨w.heap.size, 0, none⟩), .pointer (some ⟨w.heap.size + 1, 0, none⟩)]) (by simp) (by simp [go_sem]) ?_
      refine (catch_panicking w.heap.size (w.heap.size + 1) q _ _ [] w1 (row_lt h3) (row_lt h4) (row_lt h5) c3 c5 hf5 c4 hf4).mono ?_
      rintro e u' w'' ⟨rfl, rfl, rfl⟩
      have hs1 : Below q w1 (w1.setCell ⟨q, 1, none⟩ (.bool true)) := (Below.refl q w1).setCell (Nat.le_refl q) _
      have hs2 : Below w.heap.size (w1.setCell ⟨q, 1, none⟩ (.bool true)) (((w1.setCell ⟨q, 1, none⟩ (.bool true)).setCell ⟨w.heap.size + 1, 0, none⟩ (.bool false)).alloc (.cells #[] 119)) := ((Below.refl w.heap.size _).setCell (Nat.le_succ _) _).alloc (by simp only [World.size_setCell]; exact Nat.le_of_lt (row_lt h3)) _
      have h6 : (w1.setCell ⟨q, 1, none⟩ (.bool true)).heap[w.heap.size + 1]? = some (.cells #[.bool false] 4 (0, 0)) := by
        rw [Below.heap_setCell w1 ⟨q, 1, none⟩ _ _ (by simp; omega)]
        exact h4
      have h7 : (((w1.setCell ⟨q, 1, none⟩ (.bool true)).setCell ⟨w.heap.size + 1, 0, none⟩ (.bool false)).alloc (.cells #[] 119)).heap[w.heap.size + 1]? = some (.cells #[.bool false] 4 (0, 0)) := by
        rw [Below.heap_alloc _ _ _ (by simp only [World.size_setCell]; exact row_lt h4), heap_setCell_same _ (w.heap.size + 1) 0 _ _ _ h6]
        rfl
      have c7 : (((w1.setCell ⟨q, 1, none⟩ (.bool true)).setCell ⟨w.heap.size + 1, 0, none⟩ (.bool false)).alloc (.cells #[] 119)).cell? ⟨w.heap.size + 1, 0, none⟩ = some (.bool false) := cell_of_row _ _ 0 _ _ _ h7
      refine ⟨.bool false, ?_, ?_⟩
      · simp [results, Try.results48, go_sem, c7]
      · exact ⟨(((Hba.out.mono (Nat.le_of_lt hlt)).trans hB).trans hs1).trans (hs2.mono (Nat.le_of_lt hlt)), .inr (.inr ⟨rfl, r, hr, rfl, hR.flag.below hs2 hlt⟩)⟩
def numF (bs : List Int) (fl : Bool) : Nat × List Int × Bool :=
  if fl then (0, bs, true) else match numR 0 0 bs with
    | (some n, r) => (n, r, false)
    | (none, r) => (0, r, true)
def RNum (q : Nat) (bs : List Int) (fl : Bool) (w : World) (e : Ending) (w' : World) : Prop :=
  e = .returned (.int .u64 (numF bs fl).1) ∧ (numF bs fl).1 < 18446744073709551616 ∧ Rdr w' q (numF bs fl).2.1 (numF bs fl).2.2 ∧ Below q w w'
set_option maxRecDepth 100000 in
set_option maxHeartbeats 1000000 in
theorem rnum_any (q : Nat) (bs : List Int) (fl : Bool) (w : World) (H : Rdr w q bs fl) (hbs : ∀ x ∈ bs, 0 ≤ x ∧ x < 256) :
    Calls Try.prog 32 #[.pointer (some ⟨q, 0, none⟩)] w (RNum q bs fl w) := by
  have hmf : ∀ (fn : Fn) (first cap : Array Value) (w : World), (Instr.makeFunc fn first cap).run Try.prog w = .ok (.func fn first cap) w := fun _ _ _ _ => rfl
  have hlt := H.lt
  obtain ⟨wa, hwa⟩ : ∃ wa, (w.alloc (.cells #[.pointer (some ⟨q, 0, none⟩)] 77)).alloc (.cells #[.int .u64 0] 54) = wa := ⟨_, rfl⟩
  have hba : Below w.heap.size w wa := by rw [← hwa]; exact ((Below.refl _ _).alloc (Nat.le_refl _) _).alloc (by simp) _
  have hr3 : wa.heap[w.heap.size]? = some (.cells #[.pointer (some ⟨q, 0, none⟩)] 77 (0, 0)) := by
    rw [← hwa, Below.heap_alloc _ _ _ (by simp)]
    exact heap_alloc_new w _
  have hr4 : wa.heap[w.heap.size + 1]? = some (.cells #[.int .u64 0] 54 (0, 0)) := by
    rw [← hwa]
    have h := heap_alloc_new (w.alloc (.cells #[.pointer (some ⟨q, 0, none⟩)] 77)) (.cells #[.int .u64 0] 54)
    rw [show (w.alloc (.cells #[.pointer (some ⟨q, 0, none⟩)] 77)).heap.size = w.heap.size + 1 by simp] at h
    exact h
  have htry := tryNum_any q w.heap.size (w.heap.size + 1) 0 bs fl wa (H.below hba hlt) hbs hr3 hr4 (by omega)
  have Hwa := keep hwa
  have Hba := keep hba
  have Htry := keep htry
  clear hwa hba htry hr3 hr4 H hbs
  go_enter Try.func32, Try.ntmps32
  go_wp2_with fail
  rw [Hwa.out]
  refine Htry.out.mono ?_
  rintro e w1 ⟨hB, ⟨rfl, rfl, hR⟩ | ⟨rfl, n, r, hr, hn64, rfl, hR, h2⟩ | ⟨rfl, r, hr, rfl, hR⟩⟩
  · have hpost : RNum q bs true w (.returned (.int .u64 0)) w1 := ⟨rfl, by simp [numF], hR, (Hba.out.mono (Nat.le_of_lt hlt)).trans hB⟩
    have Hpost := keep hpost
    clear hpost hB hR
    go_wp2_with fail
    go_ret
    exact Hpost.out
  · have e1 : numF bs false = (n, r, false) := by simp [numF, hr]
    have hpost : RNum q bs false w (.returned (.int .u64 n)) w1 := by
      unfold RNum
      rw [e1]
      exact ⟨rfl, hn64, hR, (Hba.out.mono (Nat.le_of_lt hlt)).trans hB⟩
    have c2 : w1.cell? ⟨w.heap.size + 1, 0, none⟩ = some (.int .u64 n) := cell_of_row _ _ 0 _ _ _ h2
    have Hpost := keep hpost
    clear hpost hB hR e1 hr hn64 h2
    go_wp2_with fail
    go_ret
    exact Hpost.out
  · have e1 : numF bs false = (0, r, true) := by simp [numF, hr]
    have hpost : RNum q bs false w (.returned (.int .u64 0)) w1 := by
      unfold RNum
      rw [e1]
      exact ⟨rfl, by simp, hR, (Hba.out.mono (Nat.le_of_lt hlt)).trans hB⟩
    have Hpost := keep hpost
    clear hpost hB hR e1 hr
    go_wp2_with fail
    go_ret
    exact Hpost.out
end Go.Proofs.Ytmfgcdfemhaieaa
