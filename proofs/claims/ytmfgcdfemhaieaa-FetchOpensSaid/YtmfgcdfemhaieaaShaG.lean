/- The reference's sum. -/
import Derived.Test.YtmfgcdfemhaieaaShaE
import Derived.Test.YtmfgcdfemhaieaaShaF
import Derived.Test.YtmfgcdfemhaieaaQTail
namespace Go.Proofs.Ytmfgcdfemhaieaa
open Go.RowKit

def blockAt (p : List Int) (j i : Nat) : Int := p.getD (64 * j + i) 0
def hashTo (p : List Int) : Nat → List Int
  | 0 => h0P
  | j + 1 => turnP ksP (blockAt p j) (hashTo p j)
theorem hashTo_length (p : List Int) (j : Nat) : (hashTo p j).length = 8 := by
  induction j with
  | zero => rfl
  | succ j ih => rw [hashTo, turnP_length, ih]
def keyAt (hs : List Int) (i : Nat) : Int := hs.getD (i / 4) 0 / 2 ^ (24 - 8 * (i % 4)) % 256
def keyTo (hs : List Int) : Nat → List Int
  | 0 => List.replicate 32 0
  | i + 1 => (keyTo hs i).set i (keyAt hs i)
theorem keyTo_length (hs : List Int) (i : Nat) : (keyTo hs i).length = 32 := by
  induction i with
  | zero => rfl
  | succ i ih => rw [keyTo, List.length_set, ih]
def sumP (text : List Int) : List Int := keyTo (hashTo (padP text) ((padP text).length / 64)) 32
def bys (xs : List Int) : Array Value := (xs.map (Value.int .u8)).toArray

structure SumR (w : World) (gr gs gk bp : Nat) (A : Option Addr) (n c : Nat) (p hs : List Int) (wr : World) : Prop where
  r : wr.heap[gr]? = some (.cells (bys (List.replicate 32 0)) 29 (0, 0))
  s : wr.heap[gs]? = some (.cells (vals hs) 104 (0, 0))
  k : wr.heap[gk]? = some (.cells (vals ksP) 105 (0, 0))
  p : OwnI wr bp 5 .u8 (.slice A n c) p
  b : Below w.heap.size w wr
theorem SumR.set_far {w wr : World} {gr gs gk bp n c : Nat} {A : Option Addr} {p hs : List Int} (h : SumR w gr gs gk bp A n c p hs wr) {G : Nat} (h1 : G ≠ gr) (h2 : G ≠ gs) (h3 : G ≠ gk) (h4 : (Value.slice A n c).ownBlock ≠ some G) (h5 : w.heap.size ≤ G) (i : Nat) (v : Value) :
    SumR w gr gs gk bp A n c p hs (wr.setCell ⟨G, i, none⟩ v) where
  r := by rw [Below.heap_setCell _ _ _ _ (by simpa using Ne.symm h1)]; exact h.r
  s := by rw [Below.heap_setCell _ _ _ _ (by simpa using Ne.symm h2)]; exact h.s
  k := by rw [Below.heap_setCell _ _ _ _ (by simpa using Ne.symm h3)]; exact h.k
  p := h.p.grown (grown_setCell _ _ _ _) (.inr h4)
  b := h.b.setCell h5 _
theorem SumR.drewN {w wr : World} {gr gs gk bp n c : Nat} {A : Option Addr} {p hs : List Int} (h : SumR w gr gs gk bp A n c p hs wr) (m : Nat) : SumR w gr gs gk bp A n c p hs (wr.drewN m) :=
  ⟨h.r, h.s, h.k, h.p.grown (grown_drewN (World.grownBy.refl _ none) m) (by cases (Value.slice A n c).ownBlock <;> simp), below_drewN' h.b m⟩
theorem SumR.alloc {w wr : World} {gr gs gk bp n c : Nat} {A : Option Addr} {p hs : List Int} (h : SumR w gr gs gk bp A n c p hs wr) (o : Obj) : SumR w gr gs gk bp A n c p hs (wr.alloc o) where
  r := by rw [Below.heap_alloc _ _ _ (row_lt h.r)]; exact h.r
  s := by rw [Below.heap_alloc _ _ _ (row_lt h.s)]; exact h.s
  k := by rw [Below.heap_alloc _ _ _ (row_lt h.k)]; exact h.k
  p := ⟨h.p.out.alloc _⟩
  b := h.b.alloc h.b.size _
theorem SumR.setS {w wr : World} {gs gk bp n c : Nat} {A : Option Addr} {p hs : List Int} (h : SumR w w.heap.size gs gk bp A n c p hs wr) (h1 : w.heap.size < gs) (h2 : gs < gk) (h3 : gk < bp) (i : Nat) (v : Int) :
    SumR w w.heap.size gs gk bp A n c p (hs.set i v) (wr.setCell ⟨gs, i, none⟩ (.int .u32 v)) where
  r := by rw [Below.heap_setCell _ _ _ _ (by simp; omega)]; exact h.r
  s := row_set h.s i v
  k := by rw [Below.heap_setCell _ _ _ _ (by simp; omega)]; exact h.k
  p := h.p.grown (grown_setCell _ _ _ _) (.inr (fun e => by have := own_base h.p.out _ e; omega))
  b := h.b.setCell (Nat.le_of_lt h1) _
theorem byte_cell {W : World} {G : Nat} {t : TypeId} {ws : List Int} (h : W.heap[G]? = some (.cells (bys ws) t (0, 0))) {k : Nat} (hk : k < ws.length) : W.cell? ⟨G, k, none⟩ = some (.int .u8 (ws.getD k 0)) := by
  rw [cell_of_row W _ _ _ _ _ h]
  simp [bys, List.getElem?_eq_getElem hk, List.getD_eq_getElem?_getD]
theorem byte_set {W : World} {G : Nat} {t : TypeId} {ws : List Int} (h : W.heap[G]? = some (.cells (bys ws) t (0, 0))) (k : Nat) (v : Int) : (W.setCell ⟨G, k, none⟩ (.int .u8 v)).heap[G]? = some (.cells (bys (ws.set k v)) t (0, 0)) := by
  rw [heap_setCell_same W G k _ t _ h]
  simp [bys, List.map_set]
theorem padP_length (text : List Int) : (padP text).length = text.length + 9 + padZ text.length := by
  simp [padP, padTo_length, beTo]; omega
theorem padP_mod (text : List Int) : (padP text).length % 64 = 0 := by rw [padP_length]; unfold padZ; omega
theorem padP_bound (text : List Int) : (padP text).length ≤ text.length + 72 := by rw [padP_length]; unfold padZ; omega
/-- What the loops over one block hold beside the sum's own words: the block of the rounds' words. -/
structure RoundR (w wo : World) (gr gs gk bp : Nat) (A : Option Addr) (n c : Nat) (p hs ws : List Int) (wr : World) : Prop where
  sum : SumR w gr gs gk bp A n c p hs wr
  words : wr.heap[wo.heap.size]? = some (.cells (vals ws) 105 (0, 0))
def SumPost (text : List Int) (w : World) (e : Ending) (w' : World) : Prop := e = .returned (.agg (bys (sumP text))) ∧ Below w.heap.size w w'

set_option maxRecDepth 100000 in
set_option maxHeartbeats 4000000 in
theorem rsum_any (A : Option Addr) (c : Nat) (text : List Int) (B : Nat) (w : World) (hL : text.length ≤ 1099511627776) (HR : RdI w B .u8 A text) (hB : B ≤ w.heap.size) :
    Calls Try.prog 45 #[.slice A text.length c] w (SumPost text w) := by
  go_enter Try.func45, Try.ntmps45
  go_wp2_with (first | (go_at_call 54; refine (table_any _).mono ?_; rintro e w1 ⟨rfl, hb1⟩) | (refine wpList_store_row rfl 105 (.tmp 4) (.tmp 26) rfl _ (vals ksP) rfl rfl 105 _ (heap_alloc_new _ _) (by kernel_rfl) rfl (by kernel_rfl) ?_; rw [setRow_alloc]))
  have hb0 : Below w.heap.size w w1 := by
    have h1 := ((Below.refl w.heap.size w).alloc (Nat.le_refl _) (.cells (bys (List.replicate 32 0)) 29)).alloc (by simp) (.cells (vals h0P) 104)
    exact h1.trans (hb1.mono (by simp; omega))
  have hr1 : w1.heap[w.heap.size]? = some (.cells (bys (List.replicate 32 0)) 29 (0, 0)) := by
    rw [hb1.block _ (by simp; omega)]; exact heap_alloc2_old w _ _
  have hs1 : w1.heap[w.heap.size + 1]? = some (.cells (vals h0P) 104 (0, 0)) := by
    rw [hb1.block _ (by simp)]; exact heap_alloc2_new w _ _
  have hb2 : Below w.heap.size w (w1.alloc (.cells (vals ksP) 105)) := hb0.alloc hb0.size _
  have hk2 : (w1.alloc (.cells (vals ksP) 105)).heap[w1.heap.size]? = some (.cells (vals ksP) 105 (0, 0)) := heap_alloc_new _ _
  have hlt1 := row_lt hs1
  have hr2 : (w1.alloc (.cells (vals ksP) 105)).heap[w.heap.size]? = some (.cells (bys (List.replicate 32 0)) 29 (0, 0)) := by rw [Below.heap_alloc _ _ _ (by omega)]; exact hr1
  have hs2 : (w1.alloc (.cells (vals ksP) 105)).heap[w.heap.size + 1]? = some (.cells (vals h0P) 104 (0, 0)) := by rw [Below.heap_alloc _ _ _ hlt1]; exact hs1
  have hz2 : w1.heap.size < (w1.alloc (.cells (vals ksP) 105)).heap.size := by simp
  clear hb0 hr1 hs1
  generalize w1.alloc (.cells (vals ksP) 105) = w2 at *
  refine (pad_any A c text B w2 hL (HR.below (hb2.mono hB))).mono ?_
  rintro e w3 ⟨v, rfl, hO3, hb3⟩
  have hpm := padP_mod text
  have hpb := padP_bound text
  have hdef : sumP text = keyTo (hashTo (padP text) ((padP text).length / 64)) 32 := rfl
  generalize padP text = p at *
  obtain ⟨A3, c3, rfl, hc3, _⟩ := hO3.slice
  have hS3 : SumR w w.heap.size (w.heap.size + 1) w1.heap.size w2.heap.size A3 p.length c3 p h0P w3 :=
    ⟨by rw [hb3.block _ (by omega)]; exact hr2, by rw [hb3.block _ (by omega)]; exact hs2, by rw [hb3.block _ hz2]; exact hk2, hO3, hb2.trans (hb3.mono (by omega))⟩
  obtain ⟨n, hn⟩ : ∃ n, p.length = n := ⟨_, rfl⟩
  rw [hn] at hpm hpb hc3 hS3 hdef ⊢
  have hg0 : w.heap.size + 1 < w2.heap.size := by omega
  have Hn := keep hn
  have Hdef := keep hdef
  have Hpm := keep hpm
  clear hpm hb1 hb2 hk2 hr2 hs2 hb3 hO3 hn hdef HR hB
  obtain ⟨gs, hgs⟩ : ∃ gs, gs = w.heap.size + 1 := ⟨_, rfl⟩
  have hgs1 : w.heap.size < gs := by omega
  have hgs2 : gs < w1.heap.size := by omega
  rw [← hgs] at hS3 ⊢
  clear hgs hlt1 hg0
  generalize hgk : w1.heap.size = gk at *
  generalize hbp : w2.heap.size = bp at *
  clear hgk hbp
  go_wp2
  go_loopw [6] (fun i wr => ∃ j : Nat, 64 * j ≤ n ∧ i = .int .i64 (64 * (j : Int)) ∧ SumR w w.heap.size gs gk bp A3 n c3 p (hashTo p j) wr) (fun i _ => n - (intOf i).toNat)
  case atStart => exact ⟨0, by omega, rfl, hS3⟩
  case round =>
    obtain ⟨j, hj, rfl, hS⟩ := hrel
    clear hS3
    have hn63 : n ≤ 1099511628000 := by omega
    by_cases hlt : 64 * j < n
    · have hlt64 : 64 * j + 64 ≤ n := by have := Hpm.out; omega
      have hl8 := hashTo_length p j
      have Hh : Keep (hashTo p (j + 1) = turnP ksP (blockAt p j) (hashTo p j)) := ⟨rfl⟩
      have HB : Keep (∀ i, blockAt p j i = p.getD (64 * j + i) 0) := ⟨fun _ => rfl⟩
      generalize blockAt p j = Bk at *
      generalize hashTo p j = hs at *
      obtain ⟨s0, s1, s2, s3, s4, s5, s6, s7, rfl⟩ := eight hl8
      obtain ⟨wo, rfl⟩ : ∃ wo : World, wo = wr := ⟨_, rfl⟩
      have hgn : (Value.slice A3 n c3).ownBlock ≠ some wo.heap.size := fun e => by have := own_lt hS.p.out _ e; omega
      have hgl : gk < wo.heap.size := row_lt hS.k
      have ht : decide ((64 * (j : Int)) < (n : Int)) = true := by simp; omega
      go_wp2
      go_loopw [8] (fun i wr => ∃ k : Nat, k ≤ 16 ∧ i = .int .i64 k ∧ RoundR w wo w.heap.size gs gk bp A3 n c3 p [s0, s1, s2, s3, s4, s5, s6, s7] (wordsTo Bk k) wr) (fun i _ => 16 - (intOf i).toNat)
      case atStart => exact ⟨0, by omega, rfl, hS.alloc _, by rw [wordsTo, zeros64]; exact heap_alloc_new wo _⟩
      case round =>
        obtain ⟨k, hk, rfl, hSr, hW⟩ := hrel
        by_cases hk16 : k < 16
        ·
          have hl64 := wordsTo_length Bk k
          have hnext : wordsTo Bk (k + 1) = (wordsTo Bk k).set k (nextW Bk (wordsTo Bk k) k) := rfl
          have hdef : nextW Bk (wordsTo Bk k) k = nextW Bk (wordsTo Bk k) k := rfl
          conv at hdef => rhs; unfold nextW
          rw [if_pos hk16, HB.out, HB.out, HB.out, HB.out] at hdef
          unfold wd at hdef
          simp only [← Nat.add_assoc] at hdef
          rw [hdef] at hnext
          have Hnext := keep hnext
          generalize wordsTo Bk k = ws at *
          clear hnext hdef
          obtain ⟨_, _, he, _, hrd⟩ := hSr.p.slice
          injection he with he1 _ _
          subst he1
          obtain ⟨pb, po, rfl, hpl, hpc⟩ := hrd.all_ (by rw [Hn.out]; omega)
          have c0 := hpc (64 * j + 4 * k) (by rw [Hn.out]; omega)
          have c1 := hpc (64 * j + 4 * k + 1) (by rw [Hn.out]; omega)
          have c2 := hpc (64 * j + 4 * k + 2) (by rw [Hn.out]; omega)
          have c3' := hpc (64 * j + 4 * k + 3) (by rw [Hn.out]; omega)
          have cw : wr.cell? ⟨wo.heap.size, k, none⟩ = some (.int .u32 (ws.getD k 0)) := row_cell hW (by omega)
          have cf : wr.frozen? ⟨wo.heap.size, k, none⟩ = false := frozen_of_row _ _ _ _ _ hW
          have HW := keep hW
          have Hgn := keep hgn
          clear hpc hW hl64 hgn hS hl8
          go_wp2_with fail
          go_region
          go_wp2
          go_roundw
          case rel =>
            refine ⟨k + 1, by omega, by go_num, ?_, ?_⟩
            · exact (hSr.set_far (by omega) (by omega) (by omega) Hgn.out (by omega) k _).drewN 1
            · rw [Hnext.out]
              simpa [heap_drew] using row_set HW.out k _
          case measure => simp [intOf]; omega
        · have hk64 : k = 16 := by omega
          rw [hk64] at hW
          clear hk64
          obtain ⟨wr1, rfl⟩ : ∃ w' : World, w' = wr := ⟨_, rfl⟩
          clear hS hl8
          go_wp2
          go_loopw [9] (fun i wr => ∃ k : Nat, 16 ≤ k ∧ k ≤ 64 ∧ i = .int .i64 k ∧ RoundR w wo w.heap.size gs gk bp A3 n c3 p [s0, s1, s2, s3, s4, s5, s6, s7] (wordsTo Bk k) wr) (fun i _ => 64 - (intOf i).toNat)
          case atStart => exact ⟨16, by omega, by omega, rfl, hSr, hW⟩
          case round =>
            clear hSr hW
            obtain ⟨k, hk16', hk, rfl, hSr, hW⟩ := hrel
            by_cases hk64 : k < 64
            ·
              have hl64 := wordsTo_length Bk k
              have hnext : wordsTo Bk (k + 1) = (wordsTo Bk k).set k (nextW Bk (wordsTo Bk k) k) := rfl
              have hdef : nextW Bk (wordsTo Bk k) k = nextW Bk (wordsTo Bk k) k := rfl
              conv at hdef => rhs; unfold nextW
              rw [if_neg (by omega)] at hdef
              unfold sg0 sg1 at hdef
              rw [hdef] at hnext
              have Hnext := keep hnext
              generalize wordsTo Bk k = ws at *
              clear hnext hdef
              have c15 := row_cell hW (k := k - 15) (by omega)
              have c2 := row_cell hW (k := k - 2) (by omega)
              have c16 := row_cell hW (k := k - 16) (by omega)
              have c7 := row_cell hW (k := k - 7) (by omega)
              have cw := row_cell hW (k := k) (by omega)
              have cf : wr.frozen? ⟨wo.heap.size, k, none⟩ = false := frozen_of_row _ _ _ _ _ hW
              have HW := keep hW
              have Hgn := keep hgn
              clear hW hl64 hgn
              go_wp2_with fail
              go_quiet (fail)
              go_wp2_with fail
              refine wp_region_quiet_tail 29 (by kernel_rfl) (by kernel_rfl) ?_
              simp only [List.take_succ_cons, List.take_zero, List.drop_succ_cons, List.drop_zero]
              repeat (go_big_quiet_step ((go_at_call 56; with_reducible apply quiet_in; first | (with_reducible exact rturn_7 _ _) | (with_reducible exact rturn_18 _ _) | (with_reducible exact rturn_17 _ _) | (with_reducible exact rturn_19 _ _))))
              refine wpQuiet_nil ?_
              intro _ hw'
              obtain ⟨nr, hw''⟩ := hw'
              subst hw''
              go_wp2
              go_roundw
              case rel =>
                refine ⟨k + 1, by omega, by omega, by go_num, ?_, ?_⟩
                · exact (hSr.drewN _).set_far (by omega) (by omega) (by omega) Hgn.out (by omega) k _
                · rw [Hnext.out]
                  simpa using row_set (W := wr.drewN _) HW.out k _
              case measure => simp [intOf]; omega
            · have hk64' : k = 64 := by omega
              rw [hk64'] at hW
              clear hk64'
              obtain ⟨ws, hws⟩ : ∃ ws, wordsTo Bk 64 = ws := ⟨_, rfl⟩
              have hl64 := wordsTo_length Bk 64
              rw [hws] at hW hl64
              have Hws := keep hws
              clear hws
              have p0 := row_cell hSr.s (k := 0) (by simp)
              have p1 := row_cell hSr.s (k := 1) (by simp)
              have p2 := row_cell hSr.s (k := 2) (by simp)
              have p3 := row_cell hSr.s (k := 3) (by simp)
              have p4 := row_cell hSr.s (k := 4) (by simp)
              have p5 := row_cell hSr.s (k := 5) (by simp)
              have p6 := row_cell hSr.s (k := 6) (by simp)
              have p7 := row_cell hSr.s (k := 7) (by simp)
              simp only [List.getD_cons_zero, List.getD_cons_succ] at p0 p1 p2 p3 p4 p5 p6 p7
              have HW := keep hW
              have Hl64 := keep hl64
              clear hW hl64
              go_wp2
              go_quiet (fail)
              go_wp2
              clear p0 p1 p2 p3 p4 p5 p6 p7
              obtain ⟨wr2, rfl⟩ : ∃ w' : World, w' = wr := ⟨_, rfl⟩
              go_loopw [12, 13, 14, 15, 16, 17, 18, 19, 20] (fun a b c d e f g h i wr => ∃ (k : Nat) (x0 x1 x2 x3 x4 x5 x6 x7 : Int), k ≤ 64 ∧ i = .int .i64 k ∧ roundsTo ksP ws [s0, s1, s2, s3, s4, s5, s6, s7] k = [x0, x1, x2, x3, x4, x5, x6, x7] ∧ a = .int .u32 x0 ∧ b = .int .u32 x1 ∧ c = .int .u32 x2 ∧ d = .int .u32 x3 ∧ e = .int .u32 x4 ∧ f = .int .u32 x5 ∧ g = .int .u32 x6 ∧ h = .int .u32 x7 ∧ RoundR w wo w.heap.size gs gk bp A3 n c3 p [s0, s1, s2, s3, s4, s5, s6, s7] ws wr) (fun _ _ _ _ _ _ _ _ i _ => 64 - (intOf i).toNat)
              case atStart => exact ⟨0, _, _, _, _, _, _, _, _, by omega, rfl, rfl, rfl, rfl, rfl, rfl, rfl, rfl, rfl, rfl, hSr.drewN _, HW.out⟩
              case round =>
                clear hSr HW
                obtain ⟨k, x0, x1, x2, x3, x4, x5, x6, x7, hk, rfl, hst, rfl, rfl, rfl, rfl, rfl, rfl, rfl, rfl, hSr, hW⟩ := hrel
                by_cases hk64 : k < 64
                ·
                  have hnext : roundsTo ksP ws [s0, s1, s2, s3, s4, s5, s6, s7] (k + 1) = round1 (ksP.getD k 0) (ws.getD k 0) [x0, x1, x2, x3, x4, x5, x6, x7] := by rw [roundsTo, hst]
                  have pk := row_cell hSr.k (k := k) (by show k < 64; exact hk64)
                  have pw := row_cell hW (k := k) (by have := Hl64.out; omega)
                  generalize ksP.getD k 0 = kk at *
                  generalize ws.getD k 0 = ww at *
                  have Hnext := keep hnext
                  have HW := keep hW
                  clear hnext hst hW
                  have hmax : IntKind.u32.max = 4294967295 := rfl
                  have hsg : IntKind.u32.signed = false := rfl
                  go_wp2_with fail
                  go_quiet ((go_at_call 56; with_reducible apply Calls.quiet_of; first | (with_reducible exact rturn_6 _ _) | (with_reducible exact rturn_11 _ _) | (with_reducible exact rturn_25 _ _)))
                  go_wp2_with (go_at_call 56; first | ((with_reducible refine (rturn_2 _ _).mono ?_); rintro e w' ⟨rfl, n', rfl⟩) | ((with_reducible refine (rturn_13 _ _).mono ?_); rintro e w' ⟨rfl, n', rfl⟩) | ((with_reducible refine (rturn_22 _ _).mono ?_); rintro e w' ⟨rfl, n', rfl⟩))
                  go_wp2
                  go_roundw
                  case rel =>
                    refine ⟨k + 1, _, _, _, _, _, _, _, _, by omega, by go_num, by rw [Hnext.out]; rfl, ?_, rfl, rfl, rfl, ?_, rfl, rfl, rfl, ?_, ?_⟩
                    · simp only [Int.emod_add_emod, Int.add_emod_emod]; rfl
                    · simp only [Int.add_emod_emod]; rfl
                    · exact hSr.drewN _
                    · exact HW.out
                  case measure => simp [intOf]; omega
                · have hk64' : k = 64 := by omega
                  rw [hk64'] at hst
                  clear hk64'
                  have Hst := keep hst
                  have HW := keep hW
                  have f0 := frozen_of_row wr gs 0 _ _ hSr.s
                  have f1 := frozen_of_row wr gs 1 _ _ hSr.s
                  have f2 := frozen_of_row wr gs 2 _ _ hSr.s
                  have f3 := frozen_of_row wr gs 3 _ _ hSr.s
                  have f4 := frozen_of_row wr gs 4 _ _ hSr.s
                  have f5 := frozen_of_row wr gs 5 _ _ hSr.s
                  have f6 := frozen_of_row wr gs 6 _ _ hSr.s
                  have f7 := frozen_of_row wr gs 7 _ _ hSr.s
                  have p0 := row_cell hSr.s (k := 0) (by simp)
                  have p1 := row_cell hSr.s (k := 1) (by simp)
                  have p2 := row_cell hSr.s (k := 2) (by simp)
                  have p3 := row_cell hSr.s (k := 3) (by simp)
                  have p4 := row_cell hSr.s (k := 4) (by simp)
                  have p5 := row_cell hSr.s (k := 5) (by simp)
                  have p6 := row_cell hSr.s (k := 6) (by simp)
                  have p7 := row_cell hSr.s (k := 7) (by simp)
                  simp only [List.getD_cons_zero, List.getD_cons_succ] at p0 p1 p2 p3 p4 p5 p6 p7
                  clear hst hW
                  go_wp2
                  go_roundw
                  case rel =>
                    refine ⟨j + 1, by omega, by go_num, ?_⟩
                    rw [Hh.out]
                    unfold turnP
                    rw [Hws.out, Hst.out]
                    exact (((((((hSr.setS hgs1 hgs2 hz2 0 _).setS hgs1 hgs2 hz2 1 _).setS hgs1 hgs2 hz2 2 _).setS hgs1 hgs2 hz2 3 _).setS hgs1 hgs2 hz2 4 _).setS hgs1 hgs2 hz2 5 _).setS hgs1 hgs2 hz2 6 _).setS hgs1 hgs2 hz2 7 _
                  case measure => simp [intOf]; omega
    · have hjn : j = n / 64 := by have := Hpm.out; omega
      rw [hjn] at hS
      have ht : decide ((64 * (j : Int)) < (n : Int)) = false := by simp; omega
      clear hjn
      have hl8 := hashTo_length p (n / 64)
      obtain ⟨hs, hhs⟩ : ∃ hs, hashTo p (n / 64) = hs := ⟨_, rfl⟩
      rw [hhs] at hS hl8
      have Hhs := keep hhs
      have Hl8 := keep hl8
      obtain ⟨wo, rfl⟩ : ∃ wo : World, wo = wr := ⟨_, rfl⟩
      clear hhs hl8
      go_wp2
      go_loopw [24] (fun i wr => ∃ m : Nat, m ≤ 32 ∧ i = .int .i64 m ∧ SumR w w.heap.size gs gk bp A3 n c3 p hs wr ∧ wr.heap[wo.heap.size]? = some (.cells (bys (keyTo hs m)) 29 (0, 0))) (fun i _ => 32 - (intOf i).toNat)
      case atStart => exact ⟨0, by omega, rfl, hS.alloc _, heap_alloc_new _ _⟩
      case round =>
        obtain ⟨m, hm, rfl, hSm, hO⟩ := hrel
        have hgn : gk < wo.heap.size := row_lt hS.k
        have hgo : (Value.slice A3 n c3).ownBlock ≠ some wo.heap.size := fun e => by have := own_lt hS.p.out _ e; omega
        by_cases hm32 : m < 32
        · have hnext : keyTo hs (m + 1) = (keyTo hs m).set m (keyAt hs m) := rfl
          have hlk := keyTo_length hs m
          have hka : keyAt hs m = hs.getD (m / 4) 0 / 2 ^ (24 - 8 * (m % 4)) % 256 := rfl
          have ps := row_cell hSm.s (k := m / 4) (by have := Hl8.out; omega)
          have po := byte_cell hO (k := m) (by omega)
          have pf := frozen_of_row wr wo.heap.size m _ _ hO
          generalize hs.getD (m / 4) 0 = x at *
          generalize keyTo hs m = ks at *
          have Hnext := keep hnext
          have Hka := keep hka
          have HO := keep hO
          have Hgo := keep hgo
          clear hnext hka hO hgo hlk hS
          go_wp2
          go_roundw
          case rel =>
            refine ⟨m + 1, by omega, by go_num, hSm.set_far (by omega) (by omega) (by omega) Hgo.out (by omega) m _, ?_⟩
            rw [Hnext.out, Hka.out]
            exact byte_set HO.out m _
          case measure => simp [intOf]; omega
        · have hm32' : m = 32 := by omega
          rw [hm32'] at hO
          have hfin : sumP text = keyTo hs 32 := by rw [Hdef.out, Hhs.out]
          rw [← hfin] at hO
          have hr := hSm.r
          have Hb := hSm.b
          have hsz : (bys (sumP text)).size = 32 := by simp [bys, sumP, keyTo_length]
          have hone : (bys (sumP text)).all (·.oneCell') = true := by simp [bys, Value.oneCell']
          obtain ⟨key, hkey⟩ : ∃ key, sumP text = key := ⟨_, rfl⟩
          rw [hkey] at hO hsz hone
          have Hkey := keep hkey
          have Hr := keep hr
          have HO := keep hO
          have Hsz := keep hsz
          have Hone := keep hone
          have Hinf : Keep ((Try.prog.info? 29).map (·.size) = some (bys key).size) := ⟨by rw [hsz]; kernel_rfl⟩
          clear hm32' hfin hr hO hS hsz hone hkey
          go_wp2_with (first | (refine wpList_load_row rfl 29 (.tmp 23) rfl wo.heap.size rfl 29 (bys key) (0, 0) _ HO.out Try.underlying29 rfl Hinf.out ?_) | (refine wpList_store_row rfl 29 (.tmp 2) (.tmp 258) rfl w.heap.size (bys key) rfl rfl 29 _ Hr.out Hinf.out (by rw [Hsz.out]; rfl) Hone.out ?_))
          refine bodyPost_ret (results_cell_row (p := 2) (ty := 29) rfl _ _ w.heap.size 29 (bys key) (0, 0) _ rfl (setRow_heap _ _ _ _ _ _ Hr.out) Try.underlying29 rfl Hinf.out) rfl ⟨by rw [Hkey.out], ?_⟩
          exact below_setRow Hb (Nat.le_refl _) _
end Go.Proofs.Ytmfgcdfemhaieaa
