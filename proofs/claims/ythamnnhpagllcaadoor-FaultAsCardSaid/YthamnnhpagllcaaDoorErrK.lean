/- An error, wrapped any number of times: the walk. -/
import Derived.Test.YthamnnhpagllcaaDoorErrJ
namespace Go.Proofs.YthamnnhpagllcaaDoor
open Go.RowKit Go.Extern.Stop Go.Stop Go.Extern

def txtAt (op nm : Nat → ByteArray) (c : Int) : Nat → List UInt8
  | 0 => errTxt c
  | j + 1 => (op j).data.toList ++ [32] ++ (nm j).data.toList ++ [58, 32] ++ txtAt op nm c j
def opsAt (op : Nat → ByteArray) : Nat → List ByteArray
  | 0 => []
  | j + 1 => op j :: opsAt op j
theorem opsAt_length (op : Nat → ByteArray) : ∀ j, (opsAt op j).length = j
  | 0 => rfl
  | j + 1 => by rw [opsAt, List.length_cons, opsAt_length op j]
theorem txtAt_length {n : Nat} {op nm : Nat → ByteArray} {c : Int} (h0 : -9223372036854775808 ≤ c) (h1 : c ≤ 9223372036854775807) (hl : ∀ i, i < n → (op i).size ≤ 30 ∧ (nm i).size ≤ 30) : ∀ j, j ≤ n → (txtAt op nm c j).length ≤ 25 + 63 * j
  | 0, _ => by
    have := Lib.itoa_length_le c h0 h1
    simp only [txtAt, errTxt, List.length_append, List.length_cons, List.length_nil]
    omega
  | j + 1, hj => by
    have ih := txtAt_length h0 h1 hl j (by omega)
    obtain ⟨a, b⟩ := hl j (by omega)
    have ha : (op j).data.toList.length ≤ 30 := by rw [Array.length_toList]; exact a
    have hb : (nm j).data.toList.length ≤ 30 := by rw [Array.length_toList]; exact b
    simp only [txtAt, List.length_append, List.length_cons, List.length_nil]
    omega
def eaAt (op nm : Nat → ByteArray) (c : Int) (j : Nat) : EA := ⟨c, opsAt op j, txtAt op nm c j, [c]⟩
theorem below_drew' (w : World) : Below w.heap.size w w.drew := (Below.refl _ _).drew
/-- The error behind j wraps. -/
def EAt (W : World) (op nm : Nat → ByteArray) (c : Int) (j : Nat) (v : Value) : Prop := (c = 0 ∧ 0 < j ∧ v = .nilIface) ∨ (¬ (c = 0 ∧ 0 < j) ∧ IsE W W.heap.size 0 j v (eaAt op nm c j))
theorem EAt.below {W W' : World} {op nm : Nat → ByteArray} {c : Int} {j : Nat} {v : Value} (h : EAt W op nm c j v) (hb : Below W.heap.size W W') : EAt W' op nm c j v := by
  rcases h with h | ⟨h1, h2⟩
  · exact .inl h
  · exact .inr ⟨h1, (h2.under hb).more hb.size⟩
theorem IsE.okV_false {W : World} {B d k : Nat} {v : Value} {a : EA} (h : IsE W B d k v a) (hc : a.first ≠ 0) : okV v = false := by
  cases h with
  | num d n h0 h1 =>
    have : (n == 0) = false := by simpa using hc
    simp [okV, this]
  | fault d k b op nm x a hb hr h => rfl
  | joined d b r o len c ks xs es hb hrb hr hl hlc hm hc h => rfl
theorem okV_eq {W : World} {B : Nat} {op nm : Nat → ByteArray} {c : Int} {j : Nat} {v : Value} (h1 : ¬ (c = 0 ∧ 0 < j)) (h2 : IsE W B 0 j v (eaAt op nm c j)) : okV v = (c == 0) := by
  by_cases hc : c = 0
  · obtain rfl : j = 0 := by omega
    subst hc
    generalize he : eaAt op nm 0 0 = a at h2
    cases h2 with
    | num d n h0 h1 =>
      have := congrArg EA.first he
      simp only [eaAt] at this
      rw [← this]
      rfl
  · rw [h2.okV_false hc]
    simpa using hc
theorem self_is {W : World} {B d k : Nat} {v : Value} {a : EA} (h : IsE W B d k v a) (c : Int) (hm : c ∈ a.nums) (ho : okV v = (c == 0)) (w : World) (hW : Below B W w) (hBz : B ≤ w.heap.size) : Calls Tryd.prog 12 #[v, .int .i64 c] w (PB true w) := by
  by_cases hc : c = 0
  · subst hc
    have hn := h.none_any w
    rw [ho] at hn
    exact (faultIs_ok v true w hn).mono fun e w' ⟨a, b⟩ => ⟨a, by rw [b]; exact Below.refl _ _⟩
  · have := faultIs_any h c hc w hW hBz
    rw [decide_eq_true hm] at this
    exact this
section
variable {P : Program} {a : Act} {w : World} {next : Act → World → Prop} {Q : Exit → Act → World → Prop} {o : Oper}
theorem op_callE {f : FuncId} {args : Array Value} {R : Value → World → Prop} (a' : Value → Act) (h : (execOp a.eval o).run P w = .ok (.enter f args) w) (hc : Calls P f args w fun e w' => ∃ v, e = .returned v ∧ R v w') (ha : ∀ v, a.put o.dst v = a' v) (hk : ∀ v w', R v w' → next (a' v) w') : o.wp P a w next Q := by
  unfold Oper.wp
  rw [h, Oper.upon_enter]
  refine hc.mono ?_
  rintro e w' ⟨v, rfl, hR⟩
  show next (a.put o.dst v) w'
  rw [ha]
  exact hk v w' hR
end
theorem wrap_step (op nm : Nat → ByteArray) (c : Int) (j : Nat) (v : Value) (w : World) (h : EAt w op nm c j v) :
    Calls Tryd.prog 10 #[.string (op j), .string (nm j), v] w (fun e w' => ∃ u, e = .returned u ∧ EAt w' op nm c (j + 1) u ∧ Below w.heap.size w w') := by
  by_cases hc : c = 0
  · have hno : Calls Tryd.prog 20 #[v] w (QB true w) := by
      rcases h with ⟨_, _, rfl⟩ | ⟨h1, h2⟩
      · exact none_nil w
      · obtain rfl : j = 0 := by omega
        subst hc
        have h3 : v = .iface 25 (.int .i64 0) := by
          generalize he : eaAt op nm 0 0 = a at h2
          cases h2 with
          | num d n h0 h1 =>
            have := congrArg EA.first he
            simp only [eaAt] at this
            rw [← this]
        subst h3
        exact none_num 0 w
    exact (wrap_none (op j) (nm j) v w hno).mono fun e w' ⟨he, hw⟩ => ⟨.nilIface, he, .inl ⟨hc, by omega, rfl⟩, by rw [hw]; exact Below.refl _ _⟩
  · rcases h with ⟨h1, _⟩ | ⟨_, h2⟩
    · exact absurd h1 hc
    · have hno := h2.none_any w
      rw [h2.okV_false hc] at hno
      obtain ⟨T, x, hx⟩ := h2.iface
      rw [hx] at hno
      have hw := wrap_some (op j) (nm j) T x w hno
      rw [← hx] at hw
      refine hw.mono ?_
      rintro e w' ⟨b, rfl, _, hr, hB⟩
      exact ⟨_, rfl, .inr ⟨fun h => hc h.1, h2.wrapped hB hr⟩, hB⟩
theorem ex_index2 {P : Program} {a : Act} {o : Oper} (t : TypeId) (x y : Operand) (ho : o.op = .indexAddr t x y) (b off n c k : Nat) (hx : a.eval x = .slice (some ⟨b, off, none⟩) n c) (hy : a.eval y = .int .i64 (k : Int)) (hk : k < n) (hsz : ∃ e, P.underlying t = some (.slice e) ∧ (P.info? e).map (·.size) = some 2) (W : World) :
    (execOp a.eval o).run P W = .ok (.value (.pointer (some ⟨b, off + k * 2, none⟩))) W := by
  obtain ⟨e, ht, hsz⟩ := hsz
  obtain ⟨i, hi, hs⟩ := Option.map_eq_some_iff.1 hsz
  have hel : P.elem t = e := by simp [Program.elem, ht]
  have hk' : (k : Int) < (n : Int) := by omega
  unfold execOp
  simp only [ho, hx, hy, Sem.run_bind]
  rw [run_indexAt_slice (h := by rw [hel]; exact ht), if_pos ⟨by omega, hk'⟩, hel]
  have hadd : ∀ x : Addr, x.spot = none → x.add (k * 2) = ⟨x.block, x.off + k * 2, none⟩ := fun x hx => by
    obtain ⟨b, o, s⟩ := x
    simp only at hx
    subst hx
    unfold Addr.add
    split <;> simp_all
  simp [sizeOf, typeInfo, hi, hs, Result.andThen, hadd]
--[REG
set_option maxRecDepth 100000 in
set_option maxHeartbeats 4000000 in
theorem wraps_walk (A0 : Option Addr) (n c1 : Nat) (op nm : Nat → ByteArray) (cd : Int) (w : World) (he : Env w) (hN : 5 ≤ w.heap.size) (hR : RdL w w.heap.size A0 n op nm) (hn : n ≤ maxLen) (hs : ∀ i, i < n → (op i).size ≤ maxLen ∧ (nm i).size ≤ maxLen) (h0 : -9223372036854775808 ≤ cd) (h1 : cd ≤ 9223372036854775807) :
    Calls Tryd.prog 3 #[.slice A0 n c1, .int .i64 cd] w (PB true w) := by
  have hk := known_any w he hN
  have Hk := keep hk
  have He := keep he
  have HR := keep hR
  have Hs := keep hs
  unfold maxLen at hn
  clear hk he hR hs
  go_enter Tryd.func3, Tryd.ntmps3
  go_wp2_with fail
  refine Hk.out.mono ?_
  rintro e w1 ⟨rfl, hB1⟩
  have hz1 := hB1.size
  have hR1 : RdL w1 w1.heap.size A0 n op nm := ⟨fun hp => by
    obtain ⟨b, off, hA, hb, hc⟩ := HR.out.out hp
    exact ⟨b, off, hA, Nat.lt_of_lt_of_le hb hz1, fun i hi => ⟨(hB1.cell (p := ⟨b, off + i * 2, none⟩) hb).trans (hc i hi).1, (hB1.cell (p := ⟨b, off + i * 2 + 1, none⟩) hb).trans (hc i hi).2⟩⟩⟩
  have hli := light_any A0 n c1 op nm w1 hR1 (by unfold maxLen; omega) Hs.out
  have Hli := keep hli
  have HB1 := keep hB1
  clear hli hR1 hB1 Hk
  go_wp2_with fail
  refine Hli.out.mono ?_
  rintro e w2 ⟨r, rfl, hw2, hlight⟩
  rw [hw2]
  clear hw2 Hli
  cases r with
  | false =>
    clear hlight
    go_wp2_with fail
    go_ret
    exact ⟨rfl, HB1.out⟩
  | true =>
    obtain ⟨hn12, hsz⟩ := hlight rfl
    have Hsz := keep hsz
    have hdec := dec_any cd h0 h1 w1
    have Hdec := keep hdec
    have hadd := add_str [101, 114, 114, 32] (Lib.itoa cd) (by simp) (by have := Lib.itoa_length_le cd h0 h1; omega)
    have e0 : ([101, 114, 114, 32] : List UInt8).toArray = #[101, 114, 114, 32] := rfl
    have e1 : [101, 114, 114, 32] ++ Lib.itoa cd = txtAt op nm cd 0 := rfl
    rw [e0, e1] at hadd
    obtain ⟨t0, ht0⟩ : ∃ t0, txtAt op nm cd 0 = t0 := ⟨_, rfl⟩
    rw [ht0] at hadd
    have Ht0 := keep ht0
    clear hlight hsz hdec e0 e1 ht0
    go_wp2_with fail
    refine Hdec.out.mono ?_
    rintro e w2 ⟨rfl, hw2⟩
    rw [hw2]
    clear hw2 Hdec
    go_wp2_with fail
    clear hadd
    go_loopw [5, 6, 7, 8] (fun e t o i wr => ∃ (j : Nat) (e1 : Value) (tx : List UInt8) (o1 : Value), e1 = e ∧ t = .string ⟨tx.toArray⟩ ∧ o1 = o ∧ i = .int .i64 j ∧ j ≤ n ∧ Keep (EAt wr op nm cd j e1) ∧ txtAt op nm cd j = tx ∧ SO wr o1 (opsAt op j) ∧ Below w.heap.size w wr) (fun _ _ _ i _ => n - (intOf i).toNat)
    case atStart => exact ⟨0, _, t0, _, rfl, rfl, rfl, rfl, Nat.zero_le _, ⟨.inr ⟨by omega, .num 0 cd h0 h1⟩⟩, Ht0.out, SO.none_ _, HB1.out⟩
    case round =>
      obtain ⟨j, e1, tx, o1, rfl, rfl, rfl, rfl, hj, HE, htx, hS, hB⟩ := hrel
      have Htx := keep htx
      have HS := keep hS
      have HB := keep hB
      have hzB := hB.size
      have htl := txtAt_length h0 h1 Hsz.out j hj
      rw [htx] at htl
      clear htx hS hB
      by_cases hjl : j < n
      · have tl : decide ((j : Int) < (n : Int)) = true := by simp; omega
        obtain ⟨b, off, rfl, hbw, hc⟩ := HR.out.out (by omega)
        obtain ⟨d0, d1⟩ := hc j hjl
        obtain ⟨q0, q1⟩ := Hsz.out j hjl
        have hws := wrap_step op nm cd j e1 wr.drew (HE.out.below (below_drew' wr))
        obtain ⟨s0, hs0⟩ : ∃ s, op j = s := ⟨_, rfl⟩
        obtain ⟨s1, hs1⟩ : ∃ s, nm j = s := ⟨_, rfl⟩
        rw [hs0] at d0 q0 hws
        rw [hs1] at d1 q1 hws
        have q0' : s0.data.toList.length ≤ 30 := by rw [Array.length_toList]; exact q0
        have q1' : s1.data.toList.length ≤ 30 := by rw [Array.length_toList]; exact q1
        have Hws := keep hws
        have Hs0 := keep hs0
        have Hs1 := keep hs1
        have Hd0 := keep d0
        have Hd1 := keep d1
        have Hc0 := keep ((HB.out.cell (p := ⟨b, off + j * 2, none⟩) hbw).trans d0)
        have Hc1 := keep ((HB.out.cell (p := ⟨b, off + j * 2 + 1, none⟩) hbw).trans d1)
        have hbl : b < wr.heap.size := Nat.lt_of_lt_of_le hbw hzB
        have hk0 : (0 : Int) ≤ (j : Int) := by omega
        have hk1 : (j : Int) < (n : Int) := by omega
        clear hc d0 d1 hws hs0 hs1
        go_wp2_with fail
        --R11
        refine rg_then (fun a' W => Below wr.heap.size wr W ∧ ∃ ve, EAt W op nm cd (j + 1) ve ∧ a' = { tmps := #[.slice (some ⟨b, off, none⟩) n c1, .int .i64 cd, undef, undef, .bool false, ve, .string { data := tx.toArray }, o1, .int .i64 ↑j, .bool true, .bool false, .slice (some ⟨b, off, none⟩) n c1, .bool true, .bool false, .int .i64 cd, .iface 25 (.int .i64 cd), .int .i64 cd, .string { data := (Lib.itoa cd).toArray }, .string { data := t0.toArray }, .int .i64 ↑j, .slice (some ⟨b, off, none⟩) n c1, .int .i64 ↑n, .bool true, u23, u24, .slice (some ⟨b, off, none⟩) n c1, .int .i64 ↑j, .pointer (some ⟨b, off + j * 2, none⟩), .pointer (some ⟨b, off + j * 2, none⟩), .string s0, .slice (some ⟨b, off, none⟩) n c1, .int .i64 ↑j, .pointer (some ⟨b, off + j * 2, none⟩), .pointer (some ⟨b, off + j * 2 + 1, none⟩), .string s1, e1, ve, u37, u38, u39, u40, u41, u42, u43, u44, u45, u46, u47, u48, u49, u50, u51, u52, u53, u54, u55, u56, u57, u58, u59, undef, undef, undef, undef, undef, undef, undef, undef, undef, undef, undef, undef, undef, undef, undef, undef, undef, undef, undef, undef, undef, undef, undef, undef, undef, undef, undef, undef, undef, undef, undef, undef, undef, undef, undef, undef, undef, undef, undef, undef, undef, undef, undef, undef, undef, undef, undef, undef, undef, undef, undef, undef, undef, undef, undef, undef], defers := [] }) ?_ ?_
        · refine rg_start (Below wr.heap.size wr) (by kernel_rfl) (Below.refl _ _).drew (fun h0 => ?_)
          refine rg_pure 0 (oi := { dst := some 25, op := Op.move (Operand.tmp 0), type := 22, pos := "law.go:57", after := #[], guard := none }) (.slice (some ⟨b, off, none⟩) n c1) ({ tmps := #[.slice (some ⟨b, off, none⟩) n c1, .int .i64 cd, undef, undef, .bool false, e1, .string { data := tx.toArray }, o1, .int .i64 ↑j, .bool true, .bool false, .slice (some ⟨b, off, none⟩) n c1, .bool true, .bool false, .int .i64 cd, .iface 25 (.int .i64 cd), .int .i64 cd, .string { data := (Lib.itoa cd).toArray }, .string { data := t0.toArray }, .int .i64 ↑j, .slice (some ⟨b, off, none⟩) n c1, .int .i64 ↑n, .bool true, u23, u24, .slice (some ⟨b, off, none⟩) n c1, u26, u27, u28, u29, u30, u31, u32, u33, u34, u35, u36, u37, u38, u39, u40, u41, u42, u43, u44, u45, u46, u47, u48, u49, u50, u51, u52, u53, u54, u55, u56, u57, u58, u59, undef, undef, undef, undef, undef, undef, undef, undef, undef, undef, undef, undef, undef, undef, undef, undef, undef, undef, undef, undef, undef, undef, undef, undef, undef, undef, undef, undef, undef, undef, undef, undef, undef, undef, undef, undef, undef, undef, undef, undef, undef, undef, undef, undef, undef, undef, undef, undef, undef, undef, undef, undef, undef, undef, undef, undef], defers := [] }) rfl (by kernel_rfl) (by kernel_rfl) (by kernel_rfl) (by kernel_rfl) (fun _ => by kernel_rfl) (by kernel_rfl) h0 ?_
          refine rg_pure 1 (oi := { dst := some 26, op := Op.move (Operand.tmp 8), type := 3, pos := "law.go:57", after := #[], guard := none }) (.int .i64 ↑j) ({ tmps := #[.slice (some ⟨b, off, none⟩) n c1, .int .i64 cd, undef, undef, .bool false, e1, .string { data := tx.toArray }, o1, .int .i64 ↑j, .bool true, .bool false, .slice (some ⟨b, off, none⟩) n c1, .bool true, .bool false, .int .i64 cd, .iface 25 (.int .i64 cd), .int .i64 cd, .string { data := (Lib.itoa cd).toArray }, .string { data := t0.toArray }, .int .i64 ↑j, .slice (some ⟨b, off, none⟩) n c1, .int .i64 ↑n, .bool true, u23, u24, .slice (some ⟨b, off, none⟩) n c1, .int .i64 ↑j, u27, u28, u29, u30, u31, u32, u33, u34, u35, u36, u37, u38, u39, u40, u41, u42, u43, u44, u45, u46, u47, u48, u49, u50, u51, u52, u53, u54, u55, u56, u57, u58, u59, undef, undef, undef, undef, undef, undef, undef, undef, undef, undef, undef, undef, undef, undef, undef, undef, undef, undef, undef, undef, undef, undef, undef, undef, undef, undef, undef, undef, undef, undef, undef, undef, undef, undef, undef, undef, undef, undef, undef, undef, undef, undef, undef, undef, undef, undef, undef, undef, undef, undef, undef, undef, undef, undef, undef, undef], defers := [] }) rfl (by kernel_rfl) (by kernel_rfl) (by kernel_rfl) (by kernel_rfl) (fun _ => by kernel_rfl) (by kernel_rfl) h0 ?_
          refine rg_pure 2 (oi := { dst := some 27, op := Op.indexAddr 22 (Operand.tmp 25) (Operand.tmp 26), type := 0, pos := "law.go:57", after := #[{ on := 0, ground := Ground.data }, { on := 1, ground := Ground.data }], guard := none }) (.pointer (some ⟨b, off + j * 2, none⟩)) ({ tmps := #[.slice (some ⟨b, off, none⟩) n c1, .int .i64 cd, undef, undef, .bool false, e1, .string { data := tx.toArray }, o1, .int .i64 ↑j, .bool true, .bool false, .slice (some ⟨b, off, none⟩) n c1, .bool true, .bool false, .int .i64 cd, .iface 25 (.int .i64 cd), .int .i64 cd, .string { data := (Lib.itoa cd).toArray }, .string { data := t0.toArray }, .int .i64 ↑j, .slice (some ⟨b, off, none⟩) n c1, .int .i64 ↑n, .bool true, u23, u24, .slice (some ⟨b, off, none⟩) n c1, .int .i64 ↑j, .pointer (some ⟨b, off + j * 2, none⟩), u28, u29, u30, u31, u32, u33, u34, u35, u36, u37, u38, u39, u40, u41, u42, u43, u44, u45, u46, u47, u48, u49, u50, u51, u52, u53, u54, u55, u56, u57, u58, u59, undef, undef, undef, undef, undef, undef, undef, undef, undef, undef, undef, undef, undef, undef, undef, undef, undef, undef, undef, undef, undef, undef, undef, undef, undef, undef, undef, undef, undef, undef, undef, undef, undef, undef, undef, undef, undef, undef, undef, undef, undef, undef, undef, undef, undef, undef, undef, undef, undef, undef, undef, undef, undef, undef, undef, undef], defers := [] }) rfl (by kernel_rfl) (by kernel_rfl) (by kernel_rfl) (by kernel_rfl) (fun W => ex_index2 22 (.tmp 25) (.tmp 26) rfl b off n c1 j (by kernel_rfl) (by kernel_rfl) hjl ⟨32, Tryd.underlying22, by kernel_rfl⟩ W) (by kernel_rfl) h0 ?_
          refine rg_pure 3 (oi := { dst := some 28, op := Op.fieldAddr 32 (Operand.tmp 27) 0, type := 0, pos := "law.go:57", after := #[{ on := 2, ground := Ground.data }], guard := none }) (.pointer (some ⟨b, off + j * 2, none⟩)) ({ tmps := #[.slice (some ⟨b, off, none⟩) n c1, .int .i64 cd, undef, undef, .bool false, e1, .string { data := tx.toArray }, o1, .int .i64 ↑j, .bool true, .bool false, .slice (some ⟨b, off, none⟩) n c1, .bool true, .bool false, .int .i64 cd, .iface 25 (.int .i64 cd), .int .i64 cd, .string { data := (Lib.itoa cd).toArray }, .string { data := t0.toArray }, .int .i64 ↑j, .slice (some ⟨b, off, none⟩) n c1, .int .i64 ↑n, .bool true, u23, u24, .slice (some ⟨b, off, none⟩) n c1, .int .i64 ↑j, .pointer (some ⟨b, off + j * 2, none⟩), .pointer (some ⟨b, off + j * 2, none⟩), u29, u30, u31, u32, u33, u34, u35, u36, u37, u38, u39, u40, u41, u42, u43, u44, u45, u46, u47, u48, u49, u50, u51, u52, u53, u54, u55, u56, u57, u58, u59, undef, undef, undef, undef, undef, undef, undef, undef, undef, undef, undef, undef, undef, undef, undef, undef, undef, undef, undef, undef, undef, undef, undef, undef, undef, undef, undef, undef, undef, undef, undef, undef, undef, undef, undef, undef, undef, undef, undef, undef, undef, undef, undef, undef, undef, undef, undef, undef, undef, undef, undef, undef, undef, undef, undef, undef], defers := [] }) rfl (by kernel_rfl) (by kernel_rfl) (by kernel_rfl) (by kernel_rfl) (fun _ => by kernel_rfl) (by kernel_rfl) h0 ?_
          refine rg_read 4 (oi := { dst := some 29, op := Op.load 9 (Operand.tmp 28), type := 9, pos := "law.go:57", after := #[{ on := 3, ground := Ground.data }], guard := none }) (.string s0) ({ tmps := #[.slice (some ⟨b, off, none⟩) n c1, .int .i64 cd, undef, undef, .bool false, e1, .string { data := tx.toArray }, o1, .int .i64 ↑j, .bool true, .bool false, .slice (some ⟨b, off, none⟩) n c1, .bool true, .bool false, .int .i64 cd, .iface 25 (.int .i64 cd), .int .i64 cd, .string { data := (Lib.itoa cd).toArray }, .string { data := t0.toArray }, .int .i64 ↑j, .slice (some ⟨b, off, none⟩) n c1, .int .i64 ↑n, .bool true, u23, u24, .slice (some ⟨b, off, none⟩) n c1, .int .i64 ↑j, .pointer (some ⟨b, off + j * 2, none⟩), .pointer (some ⟨b, off + j * 2, none⟩), .string s0, u30, u31, u32, u33, u34, u35, u36, u37, u38, u39, u40, u41, u42, u43, u44, u45, u46, u47, u48, u49, u50, u51, u52, u53, u54, u55, u56, u57, u58, u59, undef, undef, undef, undef, undef, undef, undef, undef, undef, undef, undef, undef, undef, undef, undef, undef, undef, undef, undef, undef, undef, undef, undef, undef, undef, undef, undef, undef, undef, undef, undef, undef, undef, undef, undef, undef, undef, undef, undef, undef, undef, undef, undef, undef, undef, undef, undef, undef, undef, undef, undef, undef, undef, undef, undef, undef], defers := [] }) rfl (by kernel_rfl) (by kernel_rfl) (by kernel_rfl) (by kernel_rfl) (fun W hW => ex_load1 _ _ 9 (.tmp 28) rfl ⟨b, off + j * 2, none⟩ (by kernel_rfl) W (by kernel_rfl) _ ((hW.cell (p := ⟨b, off + j * 2, none⟩) hbl).trans Hc0.out)) (by kernel_rfl) h0 ?_
          refine rg_pure 5 (oi := { dst := some 30, op := Op.move (Operand.tmp 0), type := 22, pos := "law.go:57", after := #[], guard := none }) (.slice (some ⟨b, off, none⟩) n c1) ({ tmps := #[.slice (some ⟨b, off, none⟩) n c1, .int .i64 cd, undef, undef, .bool false, e1, .string { data := tx.toArray }, o1, .int .i64 ↑j, .bool true, .bool false, .slice (some ⟨b, off, none⟩) n c1, .bool true, .bool false, .int .i64 cd, .iface 25 (.int .i64 cd), .int .i64 cd, .string { data := (Lib.itoa cd).toArray }, .string { data := t0.toArray }, .int .i64 ↑j, .slice (some ⟨b, off, none⟩) n c1, .int .i64 ↑n, .bool true, u23, u24, .slice (some ⟨b, off, none⟩) n c1, .int .i64 ↑j, .pointer (some ⟨b, off + j * 2, none⟩), .pointer (some ⟨b, off + j * 2, none⟩), .string s0, .slice (some ⟨b, off, none⟩) n c1, u31, u32, u33, u34, u35, u36, u37, u38, u39, u40, u41, u42, u43, u44, u45, u46, u47, u48, u49, u50, u51, u52, u53, u54, u55, u56, u57, u58, u59, undef, undef, undef, undef, undef, undef, undef, undef, undef, undef, undef, undef, undef, undef, undef, undef, undef, undef, undef, undef, undef, undef, undef, undef, undef, undef, undef, undef, undef, undef, undef, undef, undef, undef, undef, undef, undef, undef, undef, undef, undef, undef, undef, undef, undef, undef, undef, undef, undef, undef, undef, undef, undef, undef, undef, undef], defers := [] }) rfl (by kernel_rfl) (by kernel_rfl) (by kernel_rfl) (by kernel_rfl) (fun _ => by kernel_rfl) (by kernel_rfl) h0 ?_
          refine rg_pure 6 (oi := { dst := some 31, op := Op.move (Operand.tmp 8), type := 3, pos := "law.go:57", after := #[], guard := none }) (.int .i64 ↑j) ({ tmps := #[.slice (some ⟨b, off, none⟩) n c1, .int .i64 cd, undef, undef, .bool false, e1, .string { data := tx.toArray }, o1, .int .i64 ↑j, .bool true, .bool false, .slice (some ⟨b, off, none⟩) n c1, .bool true, .bool false, .int .i64 cd, .iface 25 (.int .i64 cd), .int .i64 cd, .string { data := (Lib.itoa cd).toArray }, .string { data := t0.toArray }, .int .i64 ↑j, .slice (some ⟨b, off, none⟩) n c1, .int .i64 ↑n, .bool true, u23, u24, .slice (some ⟨b, off, none⟩) n c1, .int .i64 ↑j, .pointer (some ⟨b, off + j * 2, none⟩), .pointer (some ⟨b, off + j * 2, none⟩), .string s0, .slice (some ⟨b, off, none⟩) n c1, .int .i64 ↑j, u32, u33, u34, u35, u36, u37, u38, u39, u40, u41, u42, u43, u44, u45, u46, u47, u48, u49, u50, u51, u52, u53, u54, u55, u56, u57, u58, u59, undef, undef, undef, undef, undef, undef, undef, undef, undef, undef, undef, undef, undef, undef, undef, undef, undef, undef, undef, undef, undef, undef, undef, undef, undef, undef, undef, undef, undef, undef, undef, undef, undef, undef, undef, undef, undef, undef, undef, undef, undef, undef, undef, undef, undef, undef, undef, undef, undef, undef, undef, undef, undef, undef, undef, undef], defers := [] }) rfl (by kernel_rfl) (by kernel_rfl) (by kernel_rfl) (by kernel_rfl) (fun _ => by kernel_rfl) (by kernel_rfl) h0 ?_
          refine rg_pure 7 (oi := { dst := some 32, op := Op.indexAddr 22 (Operand.tmp 30) (Operand.tmp 31), type := 0, pos := "law.go:57", after := #[{ on := 5, ground := Ground.data }, { on := 6, ground := Ground.data }], guard := none }) (.pointer (some ⟨b, off + j * 2, none⟩)) ({ tmps := #[.slice (some ⟨b, off, none⟩) n c1, .int .i64 cd, undef, undef, .bool false, e1, .string { data := tx.toArray }, o1, .int .i64 ↑j, .bool true, .bool false, .slice (some ⟨b, off, none⟩) n c1, .bool true, .bool false, .int .i64 cd, .iface 25 (.int .i64 cd), .int .i64 cd, .string { data := (Lib.itoa cd).toArray }, .string { data := t0.toArray }, .int .i64 ↑j, .slice (some ⟨b, off, none⟩) n c1, .int .i64 ↑n, .bool true, u23, u24, .slice (some ⟨b, off, none⟩) n c1, .int .i64 ↑j, .pointer (some ⟨b, off + j * 2, none⟩), .pointer (some ⟨b, off + j * 2, none⟩), .string s0, .slice (some ⟨b, off, none⟩) n c1, .int .i64 ↑j, .pointer (some ⟨b, off + j * 2, none⟩), u33, u34, u35, u36, u37, u38, u39, u40, u41, u42, u43, u44, u45, u46, u47, u48, u49, u50, u51, u52, u53, u54, u55, u56, u57, u58, u59, undef, undef, undef, undef, undef, undef, undef, undef, undef, undef, undef, undef, undef, undef, undef, undef, undef, undef, undef, undef, undef, undef, undef, undef, undef, undef, undef, undef, undef, undef, undef, undef, undef, undef, undef, undef, undef, undef, undef, undef, undef, undef, undef, undef, undef, undef, undef, undef, undef, undef, undef, undef, undef, undef, undef, undef], defers := [] }) rfl (by kernel_rfl) (by kernel_rfl) (by kernel_rfl) (by kernel_rfl) (fun W => ex_index2 22 (.tmp 30) (.tmp 31) rfl b off n c1 j (by kernel_rfl) (by kernel_rfl) hjl ⟨32, Tryd.underlying22, by kernel_rfl⟩ W) (by kernel_rfl) h0 ?_
          refine rg_pure 8 (oi := { dst := some 33, op := Op.fieldAddr 32 (Operand.tmp 32) 1, type := 0, pos := "law.go:57", after := #[{ on := 7, ground := Ground.data }], guard := none }) (.pointer (some ⟨b, off + j * 2 + 1, none⟩)) ({ tmps := #[.slice (some ⟨b, off, none⟩) n c1, .int .i64 cd, undef, undef, .bool false, e1, .string { data := tx.toArray }, o1, .int .i64 ↑j, .bool true, .bool false, .slice (some ⟨b, off, none⟩) n c1, .bool true, .bool false, .int .i64 cd, .iface 25 (.int .i64 cd), .int .i64 cd, .string { data := (Lib.itoa cd).toArray }, .string { data := t0.toArray }, .int .i64 ↑j, .slice (some ⟨b, off, none⟩) n c1, .int .i64 ↑n, .bool true, u23, u24, .slice (some ⟨b, off, none⟩) n c1, .int .i64 ↑j, .pointer (some ⟨b, off + j * 2, none⟩), .pointer (some ⟨b, off + j * 2, none⟩), .string s0, .slice (some ⟨b, off, none⟩) n c1, .int .i64 ↑j, .pointer (some ⟨b, off + j * 2, none⟩), .pointer (some ⟨b, off + j * 2 + 1, none⟩), u34, u35, u36, u37, u38, u39, u40, u41, u42, u43, u44, u45, u46, u47, u48, u49, u50, u51, u52, u53, u54, u55, u56, u57, u58, u59, undef, undef, undef, undef, undef, undef, undef, undef, undef, undef, undef, undef, undef, undef, undef, undef, undef, undef, undef, undef, undef, undef, undef, undef, undef, undef, undef, undef, undef, undef, undef, undef, undef, undef, undef, undef, undef, undef, undef, undef, undef, undef, undef, undef, undef, undef, undef, undef, undef, undef, undef, undef, undef, undef, undef, undef], defers := [] }) rfl (by kernel_rfl) (by kernel_rfl) (by kernel_rfl) (by kernel_rfl) (fun _ => by kernel_rfl) (by kernel_rfl) h0 ?_
          refine rg_read 9 (oi := { dst := some 34, op := Op.load 9 (Operand.tmp 33), type := 9, pos := "law.go:57", after := #[{ on := 8, ground := Ground.data }], guard := none }) (.string s1) ({ tmps := #[.slice (some ⟨b, off, none⟩) n c1, .int .i64 cd, undef, undef, .bool false, e1, .string { data := tx.toArray }, o1, .int .i64 ↑j, .bool true, .bool false, .slice (some ⟨b, off, none⟩) n c1, .bool true, .bool false, .int .i64 cd, .iface 25 (.int .i64 cd), .int .i64 cd, .string { data := (Lib.itoa cd).toArray }, .string { data := t0.toArray }, .int .i64 ↑j, .slice (some ⟨b, off, none⟩) n c1, .int .i64 ↑n, .bool true, u23, u24, .slice (some ⟨b, off, none⟩) n c1, .int .i64 ↑j, .pointer (some ⟨b, off + j * 2, none⟩), .pointer (some ⟨b, off + j * 2, none⟩), .string s0, .slice (some ⟨b, off, none⟩) n c1, .int .i64 ↑j, .pointer (some ⟨b, off + j * 2, none⟩), .pointer (some ⟨b, off + j * 2 + 1, none⟩), .string s1, u35, u36, u37, u38, u39, u40, u41, u42, u43, u44, u45, u46, u47, u48, u49, u50, u51, u52, u53, u54, u55, u56, u57, u58, u59, undef, undef, undef, undef, undef, undef, undef, undef, undef, undef, undef, undef, undef, undef, undef, undef, undef, undef, undef, undef, undef, undef, undef, undef, undef, undef, undef, undef, undef, undef, undef, undef, undef, undef, undef, undef, undef, undef, undef, undef, undef, undef, undef, undef, undef, undef, undef, undef, undef, undef, undef, undef, undef, undef, undef, undef], defers := [] }) rfl (by kernel_rfl) (by kernel_rfl) (by kernel_rfl) (by kernel_rfl) (fun W hW => ex_load1 _ _ 9 (.tmp 33) rfl ⟨b, off + j * 2 + 1, none⟩ (by kernel_rfl) W (by kernel_rfl) _ ((hW.cell (p := ⟨b, off + j * 2 + 1, none⟩) hbl).trans Hc1.out)) (by kernel_rfl) h0 ?_
          refine rg_pure 10 (oi := { dst := some 35, op := Op.move (Operand.tmp 5), type := 27, pos := "law.go:57", after := #[], guard := none }) (e1) ({ tmps := #[.slice (some ⟨b, off, none⟩) n c1, .int .i64 cd, undef, undef, .bool false, e1, .string { data := tx.toArray }, o1, .int .i64 ↑j, .bool true, .bool false, .slice (some ⟨b, off, none⟩) n c1, .bool true, .bool false, .int .i64 cd, .iface 25 (.int .i64 cd), .int .i64 cd, .string { data := (Lib.itoa cd).toArray }, .string { data := t0.toArray }, .int .i64 ↑j, .slice (some ⟨b, off, none⟩) n c1, .int .i64 ↑n, .bool true, u23, u24, .slice (some ⟨b, off, none⟩) n c1, .int .i64 ↑j, .pointer (some ⟨b, off + j * 2, none⟩), .pointer (some ⟨b, off + j * 2, none⟩), .string s0, .slice (some ⟨b, off, none⟩) n c1, .int .i64 ↑j, .pointer (some ⟨b, off + j * 2, none⟩), .pointer (some ⟨b, off + j * 2 + 1, none⟩), .string s1, e1, u36, u37, u38, u39, u40, u41, u42, u43, u44, u45, u46, u47, u48, u49, u50, u51, u52, u53, u54, u55, u56, u57, u58, u59, undef, undef, undef, undef, undef, undef, undef, undef, undef, undef, undef, undef, undef, undef, undef, undef, undef, undef, undef, undef, undef, undef, undef, undef, undef, undef, undef, undef, undef, undef, undef, undef, undef, undef, undef, undef, undef, undef, undef, undef, undef, undef, undef, undef, undef, undef, undef, undef, undef, undef, undef, undef, undef, undef, undef, undef], defers := [] }) rfl (by kernel_rfl) (by kernel_rfl) (by kernel_rfl) (by kernel_rfl) (fun _ => by kernel_rfl) (by kernel_rfl) h0 ?_
          refine rg_one 11 (oi := { dst := some 36, op := Op.call { callee := Callee.value (Operand.func 10), args := #[Operand.tmp 29, Operand.tmp 34, Operand.tmp 35], argTypes := #[9, 9, 27] }, type := 27, pos := "law.go:57", after := #[{ on := 4, ground := Ground.data }, { on := 9, ground := Ground.data }, { on := 10, ground := Ground.data }], guard := none }) (by kernel_rfl) rfl (by kernel_rfl) ?_
          refine op_callE (R := (fun v w' => EAt w' op nm cd (j + 1) v ∧ Below wr.drew.heap.size wr.drew w')) (f := 10) (args := #[.string s0, .string s1, e1]) (fun ve => { tmps := #[.slice (some ⟨b, off, none⟩) n c1, .int .i64 cd, undef, undef, .bool false, e1, .string { data := tx.toArray }, o1, .int .i64 ↑j, .bool true, .bool false, .slice (some ⟨b, off, none⟩) n c1, .bool true, .bool false, .int .i64 cd, .iface 25 (.int .i64 cd), .int .i64 cd, .string { data := (Lib.itoa cd).toArray }, .string { data := t0.toArray }, .int .i64 ↑j, .slice (some ⟨b, off, none⟩) n c1, .int .i64 ↑n, .bool true, u23, u24, .slice (some ⟨b, off, none⟩) n c1, .int .i64 ↑j, .pointer (some ⟨b, off + j * 2, none⟩), .pointer (some ⟨b, off + j * 2, none⟩), .string s0, .slice (some ⟨b, off, none⟩) n c1, .int .i64 ↑j, .pointer (some ⟨b, off + j * 2, none⟩), .pointer (some ⟨b, off + j * 2 + 1, none⟩), .string s1, e1, ve, u37, u38, u39, u40, u41, u42, u43, u44, u45, u46, u47, u48, u49, u50, u51, u52, u53, u54, u55, u56, u57, u58, u59, undef, undef, undef, undef, undef, undef, undef, undef, undef, undef, undef, undef, undef, undef, undef, undef, undef, undef, undef, undef, undef, undef, undef, undef, undef, undef, undef, undef, undef, undef, undef, undef, undef, undef, undef, undef, undef, undef, undef, undef, undef, undef, undef, undef, undef, undef, undef, undef, undef, undef, undef, undef, undef, undef, undef, undef], defers := [] }) (by kernel_rfl) Hws.out (fun _ => by kernel_rfl) ?_
          intro ve W2 h2
          have g2 := h0.trans (h2.2.mono h0.size)
          refine ⟨g2, ?_⟩
          refine rg_pure 12 (oi := { dst := some 5, op := Op.assign (Operand.tmp 36), type := 27, pos := "law.go:57", after := #[{ on := 11, ground := Ground.data }, { on := 11, ground := Ground.chain }, { on := 0, ground := Ground.phase }, { on := 1, ground := Ground.phase }, { on := 2, ground := Ground.phase }, { on := 3, ground := Ground.phase }, { on := 4, ground := Ground.phase }, { on := 5, ground := Ground.phase }, { on := 6, ground := Ground.phase }, { on := 7, ground := Ground.phase }, { on := 8, ground := Ground.phase }, { on := 9, ground := Ground.phase }, { on := 10, ground := Ground.phase }, { on := 11, ground := Ground.phase }], guard := none }) (ve) ({ tmps := #[.slice (some ⟨b, off, none⟩) n c1, .int .i64 cd, undef, undef, .bool false, ve, .string { data := tx.toArray }, o1, .int .i64 ↑j, .bool true, .bool false, .slice (some ⟨b, off, none⟩) n c1, .bool true, .bool false, .int .i64 cd, .iface 25 (.int .i64 cd), .int .i64 cd, .string { data := (Lib.itoa cd).toArray }, .string { data := t0.toArray }, .int .i64 ↑j, .slice (some ⟨b, off, none⟩) n c1, .int .i64 ↑n, .bool true, u23, u24, .slice (some ⟨b, off, none⟩) n c1, .int .i64 ↑j, .pointer (some ⟨b, off + j * 2, none⟩), .pointer (some ⟨b, off + j * 2, none⟩), .string s0, .slice (some ⟨b, off, none⟩) n c1, .int .i64 ↑j, .pointer (some ⟨b, off + j * 2, none⟩), .pointer (some ⟨b, off + j * 2 + 1, none⟩), .string s1, e1, ve, u37, u38, u39, u40, u41, u42, u43, u44, u45, u46, u47, u48, u49, u50, u51, u52, u53, u54, u55, u56, u57, u58, u59, undef, undef, undef, undef, undef, undef, undef, undef, undef, undef, undef, undef, undef, undef, undef, undef, undef, undef, undef, undef, undef, undef, undef, undef, undef, undef, undef, undef, undef, undef, undef, undef, undef, undef, undef, undef, undef, undef, undef, undef, undef, undef, undef, undef, undef, undef, undef, undef, undef, undef, undef, undef, undef, undef, undef, undef], defers := [] }) rfl (by kernel_rfl) (by kernel_rfl) (by kernel_rfl) (by kernel_rfl) (fun _ => by kernel_rfl) (by kernel_rfl) g2 ?_
          refine rg_done (by kernel_rfl) ⟨rfl, ?_⟩ _
          exact ⟨g2, ve, h2.1, rfl⟩
        · rintro a' w2 ⟨hB2, ve, hE2, rfl⟩
          have hb2 := HB.out.trans (hB2.mono HB.out.size)
          have hz2 := hb2.size
          have Hk0 := keep ((hb2.cell (p := ⟨b, off + j * 2, none⟩) hbw).trans Hd0.out)
          have Hk1 := keep ((hb2.cell (p := ⟨b, off + j * 2 + 1, none⟩) hbw).trans Hd1.out)
          have hso2 := HS.out.below hB2
          have HE2 := keep hE2
          have Hb2 := keep hb2
          have HS2 := keep hso2
          clear hE2 hb2 hB2 hso2
          have hbl : b < w2.heap.size := Nat.lt_of_lt_of_le hbw hz2
          go_wp2_with fail
          refine rg_then (fun a' W => Below w2.heap.size w2 W ∧ a' = { tmps := #[.slice (some ⟨b, off, none⟩) n c1, .int .i64 cd, undef, undef, .bool false, ve, .string ⟨(s0.data.toList ++ [32] ++ s1.data.toList ++ [58, 32] ++ tx).toArray⟩, o1, .int .i64 ↑j, .bool true, .bool false, .slice (some ⟨b, off, none⟩) n c1, .bool true, .bool false, .int .i64 cd, .iface 25 (.int .i64 cd), .int .i64 cd, .string { data := (Lib.itoa cd).toArray }, .string { data := t0.toArray }, .int .i64 ↑j, .slice (some ⟨b, off, none⟩) n c1, .int .i64 ↑n, .bool true, u23, u24, .slice (some ⟨b, off, none⟩) n c1, .int .i64 ↑j, .pointer (some ⟨b, off + j * 2, none⟩), .pointer (some ⟨b, off + j * 2, none⟩), .string s0, .slice (some ⟨b, off, none⟩) n c1, .int .i64 ↑j, .pointer (some ⟨b, off + j * 2, none⟩), .pointer (some ⟨b, off + j * 2 + 1, none⟩), .string s1, e1, ve, .slice (some ⟨b, off, none⟩) n c1, .int .i64 ↑j, .pointer (some ⟨b, off + j * 2, none⟩), .pointer (some ⟨b, off + j * 2, none⟩), .string s0, .string ⟨(s0.data.toList ++ [32]).toArray⟩, .slice (some ⟨b, off, none⟩) n c1, .int .i64 ↑j, .pointer (some ⟨b, off + j * 2, none⟩), .pointer (some ⟨b, off + j * 2 + 1, none⟩), .string s1, .string ⟨(s0.data.toList ++ [32] ++ s1.data.toList).toArray⟩, .string ⟨(s0.data.toList ++ [32] ++ s1.data.toList ++ [58, 32]).toArray⟩, .string { data := tx.toArray }, .string ⟨(s0.data.toList ++ [32] ++ s1.data.toList ++ [58, 32] ++ tx).toArray⟩, u52, u53, u54, u55, u56, u57, u58, u59, undef, undef, undef, undef, undef, undef, undef, undef, undef, undef, undef, undef, undef, undef, undef, undef, undef, undef, undef, undef, undef, undef, undef, undef, undef, undef, undef, undef, undef, undef, undef, undef, undef, undef, undef, undef, undef, undef, undef, undef, undef, undef, undef, undef, undef, undef, undef, undef, undef, undef, undef, undef, undef, undef, undef, undef], defers := [] }) ?_ ?_
          · refine rg_start (Below w2.heap.size w2) (by kernel_rfl) (Below.refl _ _).drew (fun h0 => ?_)
            refine rg_pure 0 (oi := { dst := some 37, op := Op.move (Operand.tmp 0), type := 22, pos := "law.go:58", after := #[], guard := none }) (.slice (some ⟨b, off, none⟩) n c1) ({ tmps := #[.slice (some ⟨b, off, none⟩) n c1, .int .i64 cd, undef, undef, .bool false, ve, .string { data := tx.toArray }, o1, .int .i64 ↑j, .bool true, .bool false, .slice (some ⟨b, off, none⟩) n c1, .bool true, .bool false, .int .i64 cd, .iface 25 (.int .i64 cd), .int .i64 cd, .string { data := (Lib.itoa cd).toArray }, .string { data := t0.toArray }, .int .i64 ↑j, .slice (some ⟨b, off, none⟩) n c1, .int .i64 ↑n, .bool true, u23, u24, .slice (some ⟨b, off, none⟩) n c1, .int .i64 ↑j, .pointer (some ⟨b, off + j * 2, none⟩), .pointer (some ⟨b, off + j * 2, none⟩), .string s0, .slice (some ⟨b, off, none⟩) n c1, .int .i64 ↑j, .pointer (some ⟨b, off + j * 2, none⟩), .pointer (some ⟨b, off + j * 2 + 1, none⟩), .string s1, e1, ve, .slice (some ⟨b, off, none⟩) n c1, u38, u39, u40, u41, u42, u43, u44, u45, u46, u47, u48, u49, u50, u51, u52, u53, u54, u55, u56, u57, u58, u59, undef, undef, undef, undef, undef, undef, undef, undef, undef, undef, undef, undef, undef, undef, undef, undef, undef, undef, undef, undef, undef, undef, undef, undef, undef, undef, undef, undef, undef, undef, undef, undef, undef, undef, undef, undef, undef, undef, undef, undef, undef, undef, undef, undef, undef, undef, undef, undef, undef, undef, undef, undef, undef, undef, undef, undef], defers := [] }) rfl (by kernel_rfl) (by kernel_rfl) (by kernel_rfl) (by kernel_rfl) (fun _ => by kernel_rfl) (by kernel_rfl) h0 ?_
            refine rg_pure 1 (oi := { dst := some 38, op := Op.move (Operand.tmp 8), type := 3, pos := "law.go:58", after := #[], guard := none }) (.int .i64 ↑j) ({ tmps := #[.slice (some ⟨b, off, none⟩) n c1, .int .i64 cd, undef, undef, .bool false, ve, .string { data := tx.toArray }, o1, .int .i64 ↑j, .bool true, .bool false, .slice (some ⟨b, off, none⟩) n c1, .bool true, .bool false, .int .i64 cd, .iface 25 (.int .i64 cd), .int .i64 cd, .string { data := (Lib.itoa cd).toArray }, .string { data := t0.toArray }, .int .i64 ↑j, .slice (some ⟨b, off, none⟩) n c1, .int .i64 ↑n, .bool true, u23, u24, .slice (some ⟨b, off, none⟩) n c1, .int .i64 ↑j, .pointer (some ⟨b, off + j * 2, none⟩), .pointer (some ⟨b, off + j * 2, none⟩), .string s0, .slice (some ⟨b, off, none⟩) n c1, .int .i64 ↑j, .pointer (some ⟨b, off + j * 2, none⟩), .pointer (some ⟨b, off + j * 2 + 1, none⟩), .string s1, e1, ve, .slice (some ⟨b, off, none⟩) n c1, .int .i64 ↑j, u39, u40, u41, u42, u43, u44, u45, u46, u47, u48, u49, u50, u51, u52, u53, u54, u55, u56, u57, u58, u59, undef, undef, undef, undef, undef, undef, undef, undef, undef, undef, undef, undef, undef, undef, undef, undef, undef, undef, undef, undef, undef, undef, undef, undef, undef, undef, undef, undef, undef, undef, undef, undef, undef, undef, undef, undef, undef, undef, undef, undef, undef, undef, undef, undef, undef, undef, undef, undef, undef, undef, undef, undef, undef, undef, undef, undef], defers := [] }) rfl (by kernel_rfl) (by kernel_rfl) (by kernel_rfl) (by kernel_rfl) (fun _ => by kernel_rfl) (by kernel_rfl) h0 ?_
            refine rg_pure 2 (oi := { dst := some 39, op := Op.indexAddr 22 (Operand.tmp 37) (Operand.tmp 38), type := 0, pos := "law.go:58", after := #[{ on := 0, ground := Ground.data }, { on := 1, ground := Ground.data }], guard := none }) (.pointer (some ⟨b, off + j * 2, none⟩)) ({ tmps := #[.slice (some ⟨b, off, none⟩) n c1, .int .i64 cd, undef, undef, .bool false, ve, .string { data := tx.toArray }, o1, .int .i64 ↑j, .bool true, .bool false, .slice (some ⟨b, off, none⟩) n c1, .bool true, .bool false, .int .i64 cd, .iface 25 (.int .i64 cd), .int .i64 cd, .string { data := (Lib.itoa cd).toArray }, .string { data := t0.toArray }, .int .i64 ↑j, .slice (some ⟨b, off, none⟩) n c1, .int .i64 ↑n, .bool true, u23, u24, .slice (some ⟨b, off, none⟩) n c1, .int .i64 ↑j, .pointer (some ⟨b, off + j * 2, none⟩), .pointer (some ⟨b, off + j * 2, none⟩), .string s0, .slice (some ⟨b, off, none⟩) n c1, .int .i64 ↑j, .pointer (some ⟨b, off + j * 2, none⟩), .pointer (some ⟨b, off + j * 2 + 1, none⟩), .string s1, e1, ve, .slice (some ⟨b, off, none⟩) n c1, .int .i64 ↑j, .pointer (some ⟨b, off + j * 2, none⟩), u40, u41, u42, u43, u44, u45, u46, u47, u48, u49, u50, u51, u52, u53, u54, u55, u56, u57, u58, u59, undef, undef, undef, undef, undef, undef, undef, undef, undef, undef, undef, undef, undef, undef, undef, undef, undef, undef, undef, undef, undef, undef, undef, undef, undef, undef, undef, undef, undef, undef, undef, undef, undef, undef, undef, undef, undef, undef, undef, undef, undef, undef, undef, undef, undef, undef, undef, undef, undef, undef, undef, undef, undef, undef, undef, undef], defers := [] }) rfl (by kernel_rfl) (by kernel_rfl) (by kernel_rfl) (by kernel_rfl) (fun W => ex_index2 22 (.tmp 37) (.tmp 38) rfl b off n c1 j (by kernel_rfl) (by kernel_rfl) hjl ⟨32, Tryd.underlying22, by kernel_rfl⟩ W) (by kernel_rfl) h0 ?_
            refine rg_pure 3 (oi := { dst := some 40, op := Op.fieldAddr 32 (Operand.tmp 39) 0, type := 0, pos := "law.go:58", after := #[{ on := 2, ground := Ground.data }], guard := none }) (.pointer (some ⟨b, off + j * 2, none⟩)) ({ tmps := #[.slice (some ⟨b, off, none⟩) n c1, .int .i64 cd, undef, undef, .bool false, ve, .string { data := tx.toArray }, o1, .int .i64 ↑j, .bool true, .bool false, .slice (some ⟨b, off, none⟩) n c1, .bool true, .bool false, .int .i64 cd, .iface 25 (.int .i64 cd), .int .i64 cd, .string { data := (Lib.itoa cd).toArray }, .string { data := t0.toArray }, .int .i64 ↑j, .slice (some ⟨b, off, none⟩) n c1, .int .i64 ↑n, .bool true, u23, u24, .slice (some ⟨b, off, none⟩) n c1, .int .i64 ↑j, .pointer (some ⟨b, off + j * 2, none⟩), .pointer (some ⟨b, off + j * 2, none⟩), .string s0, .slice (some ⟨b, off, none⟩) n c1, .int .i64 ↑j, .pointer (some ⟨b, off + j * 2, none⟩), .pointer (some ⟨b, off + j * 2 + 1, none⟩), .string s1, e1, ve, .slice (some ⟨b, off, none⟩) n c1, .int .i64 ↑j, .pointer (some ⟨b, off + j * 2, none⟩), .pointer (some ⟨b, off + j * 2, none⟩), u41, u42, u43, u44, u45, u46, u47, u48, u49, u50, u51, u52, u53, u54, u55, u56, u57, u58, u59, undef, undef, undef, undef, undef, undef, undef, undef, undef, undef, undef, undef, undef, undef, undef, undef, undef, undef, undef, undef, undef, undef, undef, undef, undef, undef, undef, undef, undef, undef, undef, undef, undef, undef, undef, undef, undef, undef, undef, undef, undef, undef, undef, undef, undef, undef, undef, undef, undef, undef, undef, undef, undef, undef, undef, undef], defers := [] }) rfl (by kernel_rfl) (by kernel_rfl) (by kernel_rfl) (by kernel_rfl) (fun _ => by kernel_rfl) (by kernel_rfl) h0 ?_
            refine rg_read 4 (oi := { dst := some 41, op := Op.load 9 (Operand.tmp 40), type := 9, pos := "law.go:58", after := #[{ on := 3, ground := Ground.data }], guard := none }) (.string s0) ({ tmps := #[.slice (some ⟨b, off, none⟩) n c1, .int .i64 cd, undef, undef, .bool false, ve, .string { data := tx.toArray }, o1, .int .i64 ↑j, .bool true, .bool false, .slice (some ⟨b, off, none⟩) n c1, .bool true, .bool false, .int .i64 cd, .iface 25 (.int .i64 cd), .int .i64 cd, .string { data := (Lib.itoa cd).toArray }, .string { data := t0.toArray }, .int .i64 ↑j, .slice (some ⟨b, off, none⟩) n c1, .int .i64 ↑n, .bool true, u23, u24, .slice (some ⟨b, off, none⟩) n c1, .int .i64 ↑j, .pointer (some ⟨b, off + j * 2, none⟩), .pointer (some ⟨b, off + j * 2, none⟩), .string s0, .slice (some ⟨b, off, none⟩) n c1, .int .i64 ↑j, .pointer (some ⟨b, off + j * 2, none⟩), .pointer (some ⟨b, off + j * 2 + 1, none⟩), .string s1, e1, ve, .slice (some ⟨b, off, none⟩) n c1, .int .i64 ↑j, .pointer (some ⟨b, off + j * 2, none⟩), .pointer (some ⟨b, off + j * 2, none⟩), .string s0, u42, u43, u44, u45, u46, u47, u48, u49, u50, u51, u52, u53, u54, u55, u56, u57, u58, u59, undef, undef, undef, undef, undef, undef, undef, undef, undef, undef, undef, undef, undef, undef, undef, undef, undef, undef, undef, undef, undef, undef, undef, undef, undef, undef, undef, undef, undef, undef, undef, undef, undef, undef, undef, undef, undef, undef, undef, undef, undef, undef, undef, undef, undef, undef, undef, undef, undef, undef, undef, undef, undef, undef, undef, undef], defers := [] }) rfl (by kernel_rfl) (by kernel_rfl) (by kernel_rfl) (by kernel_rfl) (fun W hW => ex_load1 _ _ 9 (.tmp 40) rfl ⟨b, off + j * 2, none⟩ (by kernel_rfl) W (by kernel_rfl) _ ((hW.cell (p := ⟨b, off + j * 2, none⟩) hbl).trans Hk0.out)) (by kernel_rfl) h0 ?_
            refine rg_pure 5 (oi := { dst := some 42, op := Op.binOp BinOp.add 9 (Operand.tmp 41) (Operand.const (Value.string { data := #[32] })) 9, type := 9, pos := "law.go:58", after := #[{ on := 4, ground := Ground.data }], guard := none }) (.string ⟨(s0.data.toList ++ [32]).toArray⟩) ({ tmps := #[.slice (some ⟨b, off, none⟩) n c1, .int .i64 cd, undef, undef, .bool false, ve, .string { data := tx.toArray }, o1, .int .i64 ↑j, .bool true, .bool false, .slice (some ⟨b, off, none⟩) n c1, .bool true, .bool false, .int .i64 cd, .iface 25 (.int .i64 cd), .int .i64 cd, .string { data := (Lib.itoa cd).toArray }, .string { data := t0.toArray }, .int .i64 ↑j, .slice (some ⟨b, off, none⟩) n c1, .int .i64 ↑n, .bool true, u23, u24, .slice (some ⟨b, off, none⟩) n c1, .int .i64 ↑j, .pointer (some ⟨b, off + j * 2, none⟩), .pointer (some ⟨b, off + j * 2, none⟩), .string s0, .slice (some ⟨b, off, none⟩) n c1, .int .i64 ↑j, .pointer (some ⟨b, off + j * 2, none⟩), .pointer (some ⟨b, off + j * 2 + 1, none⟩), .string s1, e1, ve, .slice (some ⟨b, off, none⟩) n c1, .int .i64 ↑j, .pointer (some ⟨b, off + j * 2, none⟩), .pointer (some ⟨b, off + j * 2, none⟩), .string s0, .string ⟨(s0.data.toList ++ [32]).toArray⟩, u43, u44, u45, u46, u47, u48, u49, u50, u51, u52, u53, u54, u55, u56, u57, u58, u59, undef, undef, undef, undef, undef, undef, undef, undef, undef, undef, undef, undef, undef, undef, undef, undef, undef, undef, undef, undef, undef, undef, undef, undef, undef, undef, undef, undef, undef, undef, undef, undef, undef, undef, undef, undef, undef, undef, undef, undef, undef, undef, undef, undef, undef, undef, undef, undef, undef, undef, undef, undef, undef, undef, undef, undef], defers := [] }) rfl (by kernel_rfl) (by kernel_rfl) (by kernel_rfl) (by kernel_rfl) (fun W => ex_add _ _ (.tmp 41) (.const (.string ⟨#[32]⟩)) rfl (s0.data.toList) ([32]) (by kernel_rfl) (by kernel_rfl) (by omega) (by decide) W) (by kernel_rfl) h0 ?_
            refine rg_pure 6 (oi := { dst := some 43, op := Op.move (Operand.tmp 0), type := 22, pos := "law.go:58", after := #[], guard := none }) (.slice (some ⟨b, off, none⟩) n c1) ({ tmps := #[.slice (some ⟨b, off, none⟩) n c1, .int .i64 cd, undef, undef, .bool false, ve, .string { data := tx.toArray }, o1, .int .i64 ↑j, .bool true, .bool false, .slice (some ⟨b, off, none⟩) n c1, .bool true, .bool false, .int .i64 cd, .iface 25 (.int .i64 cd), .int .i64 cd, .string { data := (Lib.itoa cd).toArray }, .string { data := t0.toArray }, .int .i64 ↑j, .slice (some ⟨b, off, none⟩) n c1, .int .i64 ↑n, .bool true, u23, u24, .slice (some ⟨b, off, none⟩) n c1, .int .i64 ↑j, .pointer (some ⟨b, off + j * 2, none⟩), .pointer (some ⟨b, off + j * 2, none⟩), .string s0, .slice (some ⟨b, off, none⟩) n c1, .int .i64 ↑j, .pointer (some ⟨b, off + j * 2, none⟩), .pointer (some ⟨b, off + j * 2 + 1, none⟩), .string s1, e1, ve, .slice (some ⟨b, off, none⟩) n c1, .int .i64 ↑j, .pointer (some ⟨b, off + j * 2, none⟩), .pointer (some ⟨b, off + j * 2, none⟩), .string s0, .string ⟨(s0.data.toList ++ [32]).toArray⟩, .slice (some ⟨b, off, none⟩) n c1, u44, u45, u46, u47, u48, u49, u50, u51, u52, u53, u54, u55, u56, u57, u58, u59, undef, undef, undef, undef, undef, undef, undef, undef, undef, undef, undef, undef, undef, undef, undef, undef, undef, undef, undef, undef, undef, undef, undef, undef, undef, undef, undef, undef, undef, undef, undef, undef, undef, undef, undef, undef, undef, undef, undef, undef, undef, undef, undef, undef, undef, undef, undef, undef, undef, undef, undef, undef, undef, undef, undef, undef], defers := [] }) rfl (by kernel_rfl) (by kernel_rfl) (by kernel_rfl) (by kernel_rfl) (fun _ => by kernel_rfl) (by kernel_rfl) h0 ?_
            refine rg_pure 7 (oi := { dst := some 44, op := Op.move (Operand.tmp 8), type := 3, pos := "law.go:58", after := #[], guard := none }) (.int .i64 ↑j) ({ tmps := #[.slice (some ⟨b, off, none⟩) n c1, .int .i64 cd, undef, undef, .bool false, ve, .string { data := tx.toArray }, o1, .int .i64 ↑j, .bool true, .bool false, .slice (some ⟨b, off, none⟩) n c1, .bool true, .bool false, .int .i64 cd, .iface 25 (.int .i64 cd), .int .i64 cd, .string { data := (Lib.itoa cd).toArray }, .string { data := t0.toArray }, .int .i64 ↑j, .slice (some ⟨b, off, none⟩) n c1, .int .i64 ↑n, .bool true, u23, u24, .slice (some ⟨b, off, none⟩) n c1, .int .i64 ↑j, .pointer (some ⟨b, off + j * 2, none⟩), .pointer (some ⟨b, off + j * 2, none⟩), .string s0, .slice (some ⟨b, off, none⟩) n c1, .int .i64 ↑j, .pointer (some ⟨b, off + j * 2, none⟩), .pointer (some ⟨b, off + j * 2 + 1, none⟩), .string s1, e1, ve, .slice (some ⟨b, off, none⟩) n c1, .int .i64 ↑j, .pointer (some ⟨b, off + j * 2, none⟩), .pointer (some ⟨b, off + j * 2, none⟩), .string s0, .string ⟨(s0.data.toList ++ [32]).toArray⟩, .slice (some ⟨b, off, none⟩) n c1, .int .i64 ↑j, u45, u46, u47, u48, u49, u50, u51, u52, u53, u54, u55, u56, u57, u58, u59, undef, undef, undef, undef, undef, undef, undef, undef, undef, undef, undef, undef, undef, undef, undef, undef, undef, undef, undef, undef, undef, undef, undef, undef, undef, undef, undef, undef, undef, undef, undef, undef, undef, undef, undef, undef, undef, undef, undef, undef, undef, undef, undef, undef, undef, undef, undef, undef, undef, undef, undef, undef, undef, undef, undef, undef], defers := [] }) rfl (by kernel_rfl) (by kernel_rfl) (by kernel_rfl) (by kernel_rfl) (fun _ => by kernel_rfl) (by kernel_rfl) h0 ?_
            refine rg_pure 8 (oi := { dst := some 45, op := Op.indexAddr 22 (Operand.tmp 43) (Operand.tmp 44), type := 0, pos := "law.go:58", after := #[{ on := 6, ground := Ground.data }, { on := 7, ground := Ground.data }], guard := none }) (.pointer (some ⟨b, off + j * 2, none⟩)) ({ tmps := #[.slice (some ⟨b, off, none⟩) n c1, .int .i64 cd, undef, undef, .bool false, ve, .string { data := tx.toArray }, o1, .int .i64 ↑j, .bool true, .bool false, .slice (some ⟨b, off, none⟩) n c1, .bool true, .bool false, .int .i64 cd, .iface 25 (.int .i64 cd), .int .i64 cd, .string { data := (Lib.itoa cd).toArray }, .string { data := t0.toArray }, .int .i64 ↑j, .slice (some ⟨b, off, none⟩) n c1, .int .i64 ↑n, .bool true, u23, u24, .slice (some ⟨b, off, none⟩) n c1, .int .i64 ↑j, .pointer (some ⟨b, off + j * 2, none⟩), .pointer (some ⟨b, off + j * 2, none⟩), .string s0, .slice (some ⟨b, off, none⟩) n c1, .int .i64 ↑j, .pointer (some ⟨b, off + j * 2, none⟩), .pointer (some ⟨b, off + j * 2 + 1, none⟩), .string s1, e1, ve, .slice (some ⟨b, off, none⟩) n c1, .int .i64 ↑j, .pointer (some ⟨b, off + j * 2, none⟩), .pointer (some ⟨b, off + j * 2, none⟩), .string s0, .string ⟨(s0.data.toList ++ [32]).toArray⟩, .slice (some ⟨b, off, none⟩) n c1, .int .i64 ↑j, .pointer (some ⟨b, off + j * 2, none⟩), u46, u47, u48, u49, u50, u51, u52, u53, u54, u55, u56, u57, u58, u59, undef, undef, undef, undef, undef, undef, undef, undef, undef, undef, undef, undef, undef, undef, undef, undef, undef, undef, undef, undef, undef, undef, undef, undef, undef, undef, undef, undef, undef, undef, undef, undef, undef, undef, undef, undef, undef, undef, undef, undef, undef, undef, undef, undef, undef, undef, undef, undef, undef, undef, undef, undef, undef, undef, undef, undef], defers := [] }) rfl (by kernel_rfl) (by kernel_rfl) (by kernel_rfl) (by kernel_rfl) (fun W => ex_index2 22 (.tmp 43) (.tmp 44) rfl b off n c1 j (by kernel_rfl) (by kernel_rfl) hjl ⟨32, Tryd.underlying22, by kernel_rfl⟩ W) (by kernel_rfl) h0 ?_
            refine rg_pure 9 (oi := { dst := some 46, op := Op.fieldAddr 32 (Operand.tmp 45) 1, type := 0, pos := "law.go:58", after := #[{ on := 8, ground := Ground.data }], guard := none }) (.pointer (some ⟨b, off + j * 2 + 1, none⟩)) ({ tmps := #[.slice (some ⟨b, off, none⟩) n c1, .int .i64 cd, undef, undef, .bool false, ve, .string { data := tx.toArray }, o1, .int .i64 ↑j, .bool true, .bool false, .slice (some ⟨b, off, none⟩) n c1, .bool true, .bool false, .int .i64 cd, .iface 25 (.int .i64 cd), .int .i64 cd, .string { data := (Lib.itoa cd).toArray }, .string { data := t0.toArray }, .int .i64 ↑j, .slice (some ⟨b, off, none⟩) n c1, .int .i64 ↑n, .bool true, u23, u24, .slice (some ⟨b, off, none⟩) n c1, .int .i64 ↑j, .pointer (some ⟨b, off + j * 2, none⟩), .pointer (some ⟨b, off + j * 2, none⟩), .string s0, .slice (some ⟨b, off, none⟩) n c1, .int .i64 ↑j, .pointer (some ⟨b, off + j * 2, none⟩), .pointer (some ⟨b, off + j * 2 + 1, none⟩), .string s1, e1, ve, .slice (some ⟨b, off, none⟩) n c1, .int .i64 ↑j, .pointer (some ⟨b, off + j * 2, none⟩), .pointer (some ⟨b, off + j * 2, none⟩), .string s0, .string ⟨(s0.data.toList ++ [32]).toArray⟩, .slice (some ⟨b, off, none⟩) n c1, .int .i64 ↑j, .pointer (some ⟨b, off + j * 2, none⟩), .pointer (some ⟨b, off + j * 2 + 1, none⟩), u47, u48, u49, u50, u51, u52, u53, u54, u55, u56, u57, u58, u59, undef, undef, undef, undef, undef, undef, undef, undef, undef, undef, undef, undef, undef, undef, undef, undef, undef, undef, undef, undef, undef, undef, undef, undef, undef, undef, undef, undef, undef, undef, undef, undef, undef, undef, undef, undef, undef, undef, undef, undef, undef, undef, undef, undef, undef, undef, undef, undef, undef, undef, undef, undef, undef, undef, undef, undef], defers := [] }) rfl (by kernel_rfl) (by kernel_rfl) (by kernel_rfl) (by kernel_rfl) (fun _ => by kernel_rfl) (by kernel_rfl) h0 ?_
            refine rg_read 10 (oi := { dst := some 47, op := Op.load 9 (Operand.tmp 46), type := 9, pos := "law.go:58", after := #[{ on := 9, ground := Ground.data }], guard := none }) (.string s1) ({ tmps := #[.slice (some ⟨b, off, none⟩) n c1, .int .i64 cd, undef, undef, .bool false, ve, .string { data := tx.toArray }, o1, .int .i64 ↑j, .bool true, .bool false, .slice (some ⟨b, off, none⟩) n c1, .bool true, .bool false, .int .i64 cd, .iface 25 (.int .i64 cd), .int .i64 cd, .string { data := (Lib.itoa cd).toArray }, .string { data := t0.toArray }, .int .i64 ↑j, .slice (some ⟨b, off, none⟩) n c1, .int .i64 ↑n, .bool true, u23, u24, .slice (some ⟨b, off, none⟩) n c1, .int .i64 ↑j, .pointer (some ⟨b, off + j * 2, none⟩), .pointer (some ⟨b, off + j * 2, none⟩), .string s0, .slice (some ⟨b, off, none⟩) n c1, .int .i64 ↑j, .pointer (some ⟨b, off + j * 2, none⟩), .pointer (some ⟨b, off + j * 2 + 1, none⟩), .string s1, e1, ve, .slice (some ⟨b, off, none⟩) n c1, .int .i64 ↑j, .pointer (some ⟨b, off + j * 2, none⟩), .pointer (some ⟨b, off + j * 2, none⟩), .string s0, .string ⟨(s0.data.toList ++ [32]).toArray⟩, .slice (some ⟨b, off, none⟩) n c1, .int .i64 ↑j, .pointer (some ⟨b, off + j * 2, none⟩), .pointer (some ⟨b, off + j * 2 + 1, none⟩), .string s1, u48, u49, u50, u51, u52, u53, u54, u55, u56, u57, u58, u59, undef, undef, undef, undef, undef, undef, undef, undef, undef, undef, undef, undef, undef, undef, undef, undef, undef, undef, undef, undef, undef, undef, undef, undef, undef, undef, undef, undef, undef, undef, undef, undef, undef, undef, undef, undef, undef, undef, undef, undef, undef, undef, undef, undef, undef, undef, undef, undef, undef, undef, undef, undef, undef, undef, undef, undef], defers := [] }) rfl (by kernel_rfl) (by kernel_rfl) (by kernel_rfl) (by kernel_rfl) (fun W hW => ex_load1 _ _ 9 (.tmp 46) rfl ⟨b, off + j * 2 + 1, none⟩ (by kernel_rfl) W (by kernel_rfl) _ ((hW.cell (p := ⟨b, off + j * 2 + 1, none⟩) hbl).trans Hk1.out)) (by kernel_rfl) h0 ?_
            refine rg_pure 11 (oi := { dst := some 48, op := Op.binOp BinOp.add 9 (Operand.tmp 42) (Operand.tmp 47) 9, type := 9, pos := "law.go:58", after := #[{ on := 5, ground := Ground.data }, { on := 10, ground := Ground.data }], guard := none }) (.string ⟨(s0.data.toList ++ [32] ++ s1.data.toList).toArray⟩) ({ tmps := #[.slice (some ⟨b, off, none⟩) n c1, .int .i64 cd, undef, undef, .bool false, ve, .string { data := tx.toArray }, o1, .int .i64 ↑j, .bool true, .bool false, .slice (some ⟨b, off, none⟩) n c1, .bool true, .bool false, .int .i64 cd, .iface 25 (.int .i64 cd), .int .i64 cd, .string { data := (Lib.itoa cd).toArray }, .string { data := t0.toArray }, .int .i64 ↑j, .slice (some ⟨b, off, none⟩) n c1, .int .i64 ↑n, .bool true, u23, u24, .slice (some ⟨b, off, none⟩) n c1, .int .i64 ↑j, .pointer (some ⟨b, off + j * 2, none⟩), .pointer (some ⟨b, off + j * 2, none⟩), .string s0, .slice (some ⟨b, off, none⟩) n c1, .int .i64 ↑j, .pointer (some ⟨b, off + j * 2, none⟩), .pointer (some ⟨b, off + j * 2 + 1, none⟩), .string s1, e1, ve, .slice (some ⟨b, off, none⟩) n c1, .int .i64 ↑j, .pointer (some ⟨b, off + j * 2, none⟩), .pointer (some ⟨b, off + j * 2, none⟩), .string s0, .string ⟨(s0.data.toList ++ [32]).toArray⟩, .slice (some ⟨b, off, none⟩) n c1, .int .i64 ↑j, .pointer (some ⟨b, off + j * 2, none⟩), .pointer (some ⟨b, off + j * 2 + 1, none⟩), .string s1, .string ⟨(s0.data.toList ++ [32] ++ s1.data.toList).toArray⟩, u49, u50, u51, u52, u53, u54, u55, u56, u57, u58, u59, undef, undef, undef, undef, undef, undef, undef, undef, undef, undef, undef, undef, undef, undef, undef, undef, undef, undef, undef, undef, undef, undef, undef, undef, undef, undef, undef, undef, undef, undef, undef, undef, undef, undef, undef, undef, undef, undef, undef, undef, undef, undef, undef, undef, undef, undef, undef, undef, undef, undef, undef, undef, undef, undef, undef, undef], defers := [] }) rfl (by kernel_rfl) (by kernel_rfl) (by kernel_rfl) (by kernel_rfl) (fun W => ex_add _ _ (.tmp 42) (.tmp 47) rfl (s0.data.toList ++ [32]) (s1.data.toList) (by kernel_rfl) (by kernel_rfl) (by rw [List.length_append]; simp only [List.length_cons, List.length_nil]; omega) (by omega) W) (by kernel_rfl) h0 ?_
            refine rg_pure 12 (oi := { dst := some 49, op := Op.binOp BinOp.add 9 (Operand.tmp 48) (Operand.const (Value.string { data := #[58, 32] })) 9, type := 9, pos := "law.go:58", after := #[{ on := 11, ground := Ground.data }], guard := none }) (.string ⟨(s0.data.toList ++ [32] ++ s1.data.toList ++ [58, 32]).toArray⟩) ({ tmps := #[.slice (some ⟨b, off, none⟩) n c1, .int .i64 cd, undef, undef, .bool false, ve, .string { data := tx.toArray }, o1, .int .i64 ↑j, .bool true, .bool false, .slice (some ⟨b, off, none⟩) n c1, .bool true, .bool false, .int .i64 cd, .iface 25 (.int .i64 cd), .int .i64 cd, .string { data := (Lib.itoa cd).toArray }, .string { data := t0.toArray }, .int .i64 ↑j, .slice (some ⟨b, off, none⟩) n c1, .int .i64 ↑n, .bool true, u23, u24, .slice (some ⟨b, off, none⟩) n c1, .int .i64 ↑j, .pointer (some ⟨b, off + j * 2, none⟩), .pointer (some ⟨b, off + j * 2, none⟩), .string s0, .slice (some ⟨b, off, none⟩) n c1, .int .i64 ↑j, .pointer (some ⟨b, off + j * 2, none⟩), .pointer (some ⟨b, off + j * 2 + 1, none⟩), .string s1, e1, ve, .slice (some ⟨b, off, none⟩) n c1, .int .i64 ↑j, .pointer (some ⟨b, off + j * 2, none⟩), .pointer (some ⟨b, off + j * 2, none⟩), .string s0, .string ⟨(s0.data.toList ++ [32]).toArray⟩, .slice (some ⟨b, off, none⟩) n c1, .int .i64 ↑j, .pointer (some ⟨b, off + j * 2, none⟩), .pointer (some ⟨b, off + j * 2 + 1, none⟩), .string s1, .string ⟨(s0.data.toList ++ [32] ++ s1.data.toList).toArray⟩, .string ⟨(s0.data.toList ++ [32] ++ s1.data.toList ++ [58, 32]).toArray⟩, u50, u51, u52, u53, u54, u55, u56, u57, u58, u59, undef, undef, undef, undef, undef, undef, undef, undef, undef, undef, undef, undef, undef, undef, undef, undef, undef, undef, undef, undef, undef, undef, undef, undef, undef, undef, undef, undef, undef, undef, undef, undef, undef, undef, undef, undef, undef, undef, undef, undef, undef, undef, undef, undef, undef, undef, undef, undef, undef, undef, undef, undef, undef, undef, undef, undef], defers := [] }) rfl (by kernel_rfl) (by kernel_rfl) (by kernel_rfl) (by kernel_rfl) (fun W => ex_add _ _ (.tmp 48) (.const (.string ⟨#[58, 32]⟩)) rfl (s0.data.toList ++ [32] ++ s1.data.toList) ([58, 32]) (by kernel_rfl) (by kernel_rfl) (by rw [List.length_append, List.length_append]; simp only [List.length_cons, List.length_nil]; omega) (by decide) W) (by kernel_rfl) h0 ?_
            refine rg_pure 13 (oi := { dst := some 50, op := Op.move (Operand.tmp 6), type := 9, pos := "law.go:58", after := #[], guard := none }) (.string { data := tx.toArray }) ({ tmps := #[.slice (some ⟨b, off, none⟩) n c1, .int .i64 cd, undef, undef, .bool false, ve, .string { data := tx.toArray }, o1, .int .i64 ↑j, .bool true, .bool false, .slice (some ⟨b, off, none⟩) n c1, .bool true, .bool false, .int .i64 cd, .iface 25 (.int .i64 cd), .int .i64 cd, .string { data := (Lib.itoa cd).toArray }, .string { data := t0.toArray }, .int .i64 ↑j, .slice (some ⟨b, off, none⟩) n c1, .int .i64 ↑n, .bool true, u23, u24, .slice (some ⟨b, off, none⟩) n c1, .int .i64 ↑j, .pointer (some ⟨b, off + j * 2, none⟩), .pointer (some ⟨b, off + j * 2, none⟩), .string s0, .slice (some ⟨b, off, none⟩) n c1, .int .i64 ↑j, .pointer (some ⟨b, off + j * 2, none⟩), .pointer (some ⟨b, off + j * 2 + 1, none⟩), .string s1, e1, ve, .slice (some ⟨b, off, none⟩) n c1, .int .i64 ↑j, .pointer (some ⟨b, off + j * 2, none⟩), .pointer (some ⟨b, off + j * 2, none⟩), .string s0, .string ⟨(s0.data.toList ++ [32]).toArray⟩, .slice (some ⟨b, off, none⟩) n c1, .int .i64 ↑j, .pointer (some ⟨b, off + j * 2, none⟩), .pointer (some ⟨b, off + j * 2 + 1, none⟩), .string s1, .string ⟨(s0.data.toList ++ [32] ++ s1.data.toList).toArray⟩, .string ⟨(s0.data.toList ++ [32] ++ s1.data.toList ++ [58, 32]).toArray⟩, .string { data := tx.toArray }, u51, u52, u53, u54, u55, u56, u57, u58, u59, undef, undef, undef, undef, undef, undef, undef, undef, undef, undef, undef, undef, undef, undef, undef, undef, undef, undef, undef, undef, undef, undef, undef, undef, undef, undef, undef, undef, undef, undef, undef, undef, undef, undef, undef, undef, undef, undef, undef, undef, undef, undef, undef, undef, undef, undef, undef, undef, undef, undef, undef, undef, undef, undef, undef, undef], defers := [] }) rfl (by kernel_rfl) (by kernel_rfl) (by kernel_rfl) (by kernel_rfl) (fun _ => by kernel_rfl) (by kernel_rfl) h0 ?_
            refine rg_pure 14 (oi := { dst := some 51, op := Op.binOp BinOp.add 9 (Operand.tmp 49) (Operand.tmp 50) 9, type := 9, pos := "law.go:58", after := #[{ on := 12, ground := Ground.data }, { on := 13, ground := Ground.data }], guard := none }) (.string ⟨(s0.data.toList ++ [32] ++ s1.data.toList ++ [58, 32] ++ tx).toArray⟩) ({ tmps := #[.slice (some ⟨b, off, none⟩) n c1, .int .i64 cd, undef, undef, .bool false, ve, .string { data := tx.toArray }, o1, .int .i64 ↑j, .bool true, .bool false, .slice (some ⟨b, off, none⟩) n c1, .bool true, .bool false, .int .i64 cd, .iface 25 (.int .i64 cd), .int .i64 cd, .string { data := (Lib.itoa cd).toArray }, .string { data := t0.toArray }, .int .i64 ↑j, .slice (some ⟨b, off, none⟩) n c1, .int .i64 ↑n, .bool true, u23, u24, .slice (some ⟨b, off, none⟩) n c1, .int .i64 ↑j, .pointer (some ⟨b, off + j * 2, none⟩), .pointer (some ⟨b, off + j * 2, none⟩), .string s0, .slice (some ⟨b, off, none⟩) n c1, .int .i64 ↑j, .pointer (some ⟨b, off + j * 2, none⟩), .pointer (some ⟨b, off + j * 2 + 1, none⟩), .string s1, e1, ve, .slice (some ⟨b, off, none⟩) n c1, .int .i64 ↑j, .pointer (some ⟨b, off + j * 2, none⟩), .pointer (some ⟨b, off + j * 2, none⟩), .string s0, .string ⟨(s0.data.toList ++ [32]).toArray⟩, .slice (some ⟨b, off, none⟩) n c1, .int .i64 ↑j, .pointer (some ⟨b, off + j * 2, none⟩), .pointer (some ⟨b, off + j * 2 + 1, none⟩), .string s1, .string ⟨(s0.data.toList ++ [32] ++ s1.data.toList).toArray⟩, .string ⟨(s0.data.toList ++ [32] ++ s1.data.toList ++ [58, 32]).toArray⟩, .string { data := tx.toArray }, .string ⟨(s0.data.toList ++ [32] ++ s1.data.toList ++ [58, 32] ++ tx).toArray⟩, u52, u53, u54, u55, u56, u57, u58, u59, undef, undef, undef, undef, undef, undef, undef, undef, undef, undef, undef, undef, undef, undef, undef, undef, undef, undef, undef, undef, undef, undef, undef, undef, undef, undef, undef, undef, undef, undef, undef, undef, undef, undef, undef, undef, undef, undef, undef, undef, undef, undef, undef, undef, undef, undef, undef, undef, undef, undef, undef, undef, undef, undef, undef, undef], defers := [] }) rfl (by kernel_rfl) (by kernel_rfl) (by kernel_rfl) (by kernel_rfl) (fun W => ex_add _ _ (.tmp 49) (.tmp 50) rfl (s0.data.toList ++ [32] ++ s1.data.toList ++ [58, 32]) (tx) (by kernel_rfl) (by kernel_rfl) (by rw [List.length_append, List.length_append, List.length_append]; simp only [List.length_cons, List.length_nil]; omega) (by omega) W) (by kernel_rfl) h0 ?_
            refine rg_pure 15 (oi := { dst := some 6, op := Op.assign (Operand.tmp 51), type := 9, pos := "law.go:58", after := #[{ on := 14, ground := Ground.data }, { on := 0, ground := Ground.phase }, { on := 1, ground := Ground.phase }, { on := 2, ground := Ground.phase }, { on := 3, ground := Ground.phase }, { on := 4, ground := Ground.phase }, { on := 5, ground := Ground.phase }, { on := 6, ground := Ground.phase }, { on := 7, ground := Ground.phase }, { on := 8, ground := Ground.phase }, { on := 9, ground := Ground.phase }, { on := 10, ground := Ground.phase }, { on := 11, ground := Ground.phase }, { on := 12, ground := Ground.phase }, { on := 13, ground := Ground.phase }, { on := 14, ground := Ground.phase }], guard := none }) (.string ⟨(s0.data.toList ++ [32] ++ s1.data.toList ++ [58, 32] ++ tx).toArray⟩) ({ tmps := #[.slice (some ⟨b, off, none⟩) n c1, .int .i64 cd, undef, undef, .bool false, ve, .string ⟨(s0.data.toList ++ [32] ++ s1.data.toList ++ [58, 32] ++ tx).toArray⟩, o1, .int .i64 ↑j, .bool true, .bool false, .slice (some ⟨b, off, none⟩) n c1, .bool true, .bool false, .int .i64 cd, .iface 25 (.int .i64 cd), .int .i64 cd, .string { data := (Lib.itoa cd).toArray }, .string { data := t0.toArray }, .int .i64 ↑j, .slice (some ⟨b, off, none⟩) n c1, .int .i64 ↑n, .bool true, u23, u24, .slice (some ⟨b, off, none⟩) n c1, .int .i64 ↑j, .pointer (some ⟨b, off + j * 2, none⟩), .pointer (some ⟨b, off + j * 2, none⟩), .string s0, .slice (some ⟨b, off, none⟩) n c1, .int .i64 ↑j, .pointer (some ⟨b, off + j * 2, none⟩), .pointer (some ⟨b, off + j * 2 + 1, none⟩), .string s1, e1, ve, .slice (some ⟨b, off, none⟩) n c1, .int .i64 ↑j, .pointer (some ⟨b, off + j * 2, none⟩), .pointer (some ⟨b, off + j * 2, none⟩), .string s0, .string ⟨(s0.data.toList ++ [32]).toArray⟩, .slice (some ⟨b, off, none⟩) n c1, .int .i64 ↑j, .pointer (some ⟨b, off + j * 2, none⟩), .pointer (some ⟨b, off + j * 2 + 1, none⟩), .string s1, .string ⟨(s0.data.toList ++ [32] ++ s1.data.toList).toArray⟩, .string ⟨(s0.data.toList ++ [32] ++ s1.data.toList ++ [58, 32]).toArray⟩, .string { data := tx.toArray }, .string ⟨(s0.data.toList ++ [32] ++ s1.data.toList ++ [58, 32] ++ tx).toArray⟩, u52, u53, u54, u55, u56, u57, u58, u59, undef, undef, undef, undef, undef, undef, undef, undef, undef, undef, undef, undef, undef, undef, undef, undef, undef, undef, undef, undef, undef, undef, undef, undef, undef, undef, undef, undef, undef, undef, undef, undef, undef, undef, undef, undef, undef, undef, undef, undef, undef, undef, undef, undef, undef, undef, undef, undef, undef, undef, undef, undef, undef, undef, undef, undef], defers := [] }) rfl (by kernel_rfl) (by kernel_rfl) (by kernel_rfl) (by kernel_rfl) (fun _ => by kernel_rfl) (by kernel_rfl) h0 ?_
            refine rg_done (by kernel_rfl) ⟨rfl, ?_⟩ _
            exact ⟨h0, rfl⟩
          · rintro a' w3 ⟨hB3, rfl⟩
            have hb3 := Hb2.out.trans (hB3.mono Hb2.out.size)
            have hz3 := hb3.size
            have c0 : w3.cell? ⟨b, off + j * 2, none⟩ = some (.string s0) := (hb3.cell (p := ⟨b, off + j * 2, none⟩) hbw).trans Hd0.out
            have hb3l : b < w3.heap.size := Nat.lt_of_lt_of_le hbw hz3
            have hso3 := HS2.out.below hB3
            have hE3 := EAt.below HE2.out hB3
            obtain ⟨A3, c3, rfl, hc3, hR3⟩ := hso3.slice
            have hal3 : Below w3.heap.size w3 (w3.alloc (.cells #[.string s0] 9)) := (Below.refl _ _).alloc (Nat.le_refl _) _
            have hR4 := hR3.alloc (Nat.le_refl _) (.cells #[.string s0] 9)
            obtain ⟨i0, hi, hzz⟩ := Option.map_eq_some_iff.1 infoStr
            simp only [Prod.mk.injEq] at hzz
            obtain ⟨hz0, hz1, hz2'⟩ := hzz
            have hown : (w3.alloc (.cells #[.string s0] 9)).ownsRow w3.heap.size 9 1 (.slice (some ⟨w3.heap.size, 0, none⟩) 1 1) 1 [.string s0] :=
              ⟨rfl, .inr ⟨w3.heap.size, 1, #[.string s0], rfl, Nat.le_refl _, heap_alloc_new w3 _, Nat.le_refl _, by decide, rfl, rfl⟩⟩
            have hone : ∀ u ∈ (opsAt op j).map Value.string, u.oneCell' = true := by
              intro u hu
              obtain ⟨s, _, rfl⟩ := List.mem_map.1 hu
              rfl
            have hsz : w3.heap.size ≤ (w3.alloc (.cells #[.string s0] 9)).heap.size := by simp
            have HR4 := keep hR4
            have Hi := keep hi
            have Hz0 := keep hz0
            have Hz1 := keep hz1
            have Hz2 := keep hz2'
            have Hown := keep hown
            have Hone := keep hone
            have Hal3 := keep hal3
            have Hsz := keep hsz
            have Hb3 := keep hb3
            have HE3 := keep hE3
            have hol := opsAt_length op j
            obtain ⟨L, hL⟩ : ∃ L, (opsAt op j).length = L := ⟨_, rfl⟩
            rw [hL] at HR4 hc3 hol
            rw [hL]
            have HL := keep hL
            clear hR3 hR4 hi hz0 hz1 hz2' hown hone hB3 hal3 hso3 hsz hL hb3 hE3
            go_wp2_with (at_builtin; refine wpList_append_any _ rfl (.tmp 57) (.tmp 58) 29 rfl w3.heap.size 9 i0 (.string ⟨#[]⟩) 1 16 Tryd.underlying29 Hi.out Hz0.out Hz1.out Hz2.out rfl (by omega) (.slice (some ⟨w3.heap.size, 0, none⟩) 1 1) 1 [.string s0] rfl Hown.out w3.heap.size A3 L c3 ((opsAt op j).map Value.string) rfl HR4.out Hone.out (by simp only [maxLen]; omega) (by omega) Hsz.out ?_)
            intro v5 w5 ho5 hg5 hv5
            have h35 : Below w3.heap.size w3 w5 := (Hal3.out).grown hg5 Hal3.out.size (fun k hk => by
              have : w3.heap.size = k := by simpa [Value.ownBlock] using hk
              omega)
            have hb5 := Hb3.out.trans (h35.mono Hb3.out.size)
            have hso : SO w5 v5 (opsAt op (j + 1)) := by
              refine ⟨?_⟩
              rw [opsAt, Hs0.out, List.length_cons, opsAt_length, Nat.add_comm, List.map_cons]
              rcases ho5 with ⟨q1, q2⟩
              refine ⟨q1, ?_⟩
              rcases q2 with q2 | ⟨g, cap, cur, y1, _, y2⟩
              · exact .inl q2
              · exact .inr ⟨g, cap, cur, y1, Nat.zero_le _, y2⟩
            have hE5 := EAt.below HE3.out h35
            have Hso := keep hso
            have Hb5 := keep hb5
            have HE5 := keep hE5
            clear ho5 hg5 hv5 hso hb5 h35 hE5
            go_wp2_with fail
            go_roundw
            case rel =>
              have htn : txtAt op nm cd (j + 1) = s0.data.toList ++ 32 :: (s1.data.toList ++ 58 :: 32 :: tx) := by rw [txtAt, Hs0.out, Hs1.out, Htx.out]; simp
              (repeat apply Exists.intro); exact ⟨⟨j + 1, ve, _, v5, rfl, rfl, rfl, by go_num, by omega, HE5, htn, Hso.out, Hb5.out⟩, rfl⟩
            case measure => simp [intOf]; omega
      · obtain rfl : j = n := by omega
        have tl : decide ((j : Int) < (j : Int)) = false := by simp
        have he1 := He.out.below HB.out hN
        have hNr := Nat.le_trans hN hzB
        have hol := opsAt_length op j
        by_cases hz : cd = 0 ∧ 0 < j
        · obtain ⟨hz0, hz1⟩ := hz
          have hv : e1 = .nilIface := by
            rcases HE.out with ⟨_, _, h⟩ | ⟨h, _⟩
            · exact h
            · exact absurd ⟨hz0, hz1⟩ h
          subst hv
          have tz : (cd == 0) = true := by simp [hz0]
          have tj : decide (0 < j) = true := by simp; omega
          have hcn := code_nil wr
          have hnn := nilNil
          have Hcn := keep hcn
          clear hcn hz0 HE he1
          go_wp2_with fail
          refine Hcn.out.mono ?_
          rintro e w5 ⟨rfl, hB5⟩
          have HB5 := keep (HB.out.trans (hB5.mono hzB))
          have hz5 := HB5.out.size
          clear hB5
          go_wp2_with fail
          refine (faultIs_ok .nilIface true w5 (none_nil w5)).mono ?_
          rintro e w6 ⟨rfl, hw6⟩
          rw [hw6]
          clear hw6
          go_wp2_with fail
          refine (ops_nil w5).mono ?_
          rintro e w7 ⟨rfl, hB7⟩
          have hp := HB5.out.trans (hB7.mono hz5)
          clear hB7
          go_wp2_with fail
          go_ret
          exact ⟨rfl, hp⟩
        · have hE : IsE wr wr.heap.size 0 j e1 (eaAt op nm cd j) := by
            rcases HE.out with ⟨h, h', _⟩ | ⟨_, h⟩
            · exact absurd ⟨h, h'⟩ hz
            · exact h
          obtain ⟨T0, x0, hx0⟩ := hE.iface
          have hneq := ifaceNeq T0 x0
          have htxt := text_any hE hNr wr (Below.refl _ _) (Nat.le_refl _) he1 (by show (txtAt op nm cd j).length ≤ _; rw [Htx.out]; omega)
          have e2 : (eaAt op nm cd j).txt = tx := Htx.out
          rw [e2] at htxt
          have hno := hE.none_any wr
          rw [hx0] at htxt
          have HE1 := keep hE
          have Htxt := keep htxt
          have He1 := keep he1
          have Hx0 := keep hx0
          have hokv := okV_eq hz hE
          rw [hx0] at hokv
          have Ho := keep hokv
          have tz : ((cd == 0) = true ∧ decide (0 < j) = false) ∨ ((cd == 0) = false) := by
            by_cases h : cd = 0
            · left
              refine ⟨by simp [h], ?_⟩
              have : ¬ 0 < j := fun h' => hz ⟨h, h'⟩
              simpa using this
            · right
              simpa using h
          have Hz := keep hz
          clear hE htxt he1 hno hz e2 HE hokv
          subst hx0
          rcases tz with ⟨tz, tj⟩ | tz
          all_goals
            go_wp2_with fail
            refine Htxt.out.mono ?_
            rintro e w5 ⟨rfl, hB5⟩
            have HB5 := keep hB5
            have hz5 := hB5.size
            have he5 := He1.out.below hB5 hNr
            have hcod := code_any HE1.out hNr w5 hB5 hz5 he5 (by show (opsAt op j).length ≤ _; rw [hol]; omega)
            have Hcod := keep hcod
            clear hB5 he5 hcod
            go_wp2_with fail
            refine Hcod.out.mono ?_
            rintro e w6 ⟨rfl, hB6⟩
            have HB6 := keep (HB5.out.trans (hB6.mono hz5))
            have hz6 := HB6.out.size
            have hfs : Keep ((eaAt op nm cd j).first = cd) := ⟨rfl⟩
            have tc : (cd == cd) = true := by simp
            rw [hfs.out]
            have hcs := self_is HE1.out cd (List.mem_singleton.2 rfl) Ho.out w6 HB6.out hz6
            have Hcs := keep hcs
            clear hB6 hcs
            go_wp2_with fail
            refine Hcs.out.mono ?_
            rintro e w7 ⟨rfl, hB7⟩
            have HB7 := keep (HB6.out.trans (hB7.mono hz6))
            have hz7 := HB7.out.size
            have hi0 := faultIs_ok _ _ w7 (HE1.out.none_any w7)
            rw [Ho.out, tz] at hi0
            have Hi0 := keep hi0
            have he7 := He1.out.below HB7.out hNr
            have hops := ops_any HE1.out hNr w7 HB7.out hz7 he7 (by show (opsAt op j).length ≤ _; rw [hol]; omega)
            have Hops := keep hops
            clear hB7 hi0 he7 hops
            go_wp2_with fail
            refine Hi0.out.mono ?_
            rintro e w8 ⟨rfl, hw8⟩
            rw [hw8]
            clear hw8 Hi0 Hcs
            go_wp2_with fail
            refine Hops.out.mono ?_
            rintro e w9 ⟨u9, rfl, hS9, hB9⟩
            have HB9 := keep (HB7.out.trans (hB9.mono hz7))
            have hz9 := HB9.out.size
            have hst := strings_any u9 o1 (opsAt op j) (opsAt op j) w9 hS9 (HS.out.below HB9.out) (by rw [hol]; omega) (by rw [hol]; omega)
            rw [decide_eq_true rfl] at hst
            have Hst := keep hst
            clear hB9 hst hS9
            go_wp2_with fail
            refine Hst.out.mono ?_
            rintro e w10 ⟨rfl, hB10⟩
            have hp := HB.out.trans ((HB9.out.trans (hB10.mono hz9)).mono hzB)
            clear hB10
            go_wp2_with fail
            go_ret
            exact ⟨rfl, hp⟩
--]REG
end Go.Proofs.YthamnnhpagllcaaDoor
