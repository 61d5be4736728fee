/- None; wrapped; is an error among those that are reached. -/
import Derived.Test.YthamnnhpagllcaaDoorErrF
namespace Go.Proofs.YthamnnhpagllcaaDoor
open Go.RowKit Go.Extern.Stop Go.Stop Go.Extern

theorem nilNil (w : World) : (binOp .eql 27 .nilIface .nilIface).run Tryd.prog w = .ok (.bool true) w := by kernel_rfl
theorem nilNeq (w : World) : (binOp .neq 27 .nilIface .nilIface).run Tryd.prog w = .ok (.bool false) w := by kernel_rfl
def QB (r : Bool) (w : World) (e : Ending) (w' : World) : Prop := e = .returned (.bool r) ∧ w' = w
set_option maxRecDepth 100000 in
theorem none_nil (w : World) : Calls Tryd.prog 20 #[.nilIface] w (QB true w) := by
  have h1 := nilNil
  go_enter Tryd.func20, Tryd.ntmps20
  go_wp2_with fail
  go_ret
  exact ⟨rfl, rfl⟩
set_option maxRecDepth 100000 in
theorem none_num (n : Int) (w : World) : Calls Tryd.prog 20 #[.iface 25 (.int .i64 n)] w (QB (n == 0) w) := by
  have h1 := ifaceNil 25 (.int .i64 n)
  have a1 := assertEE
  go_enter Tryd.func20, Tryd.ntmps20
  cases hb : (n == 0) with
  | true =>
    go_wp2_with fail
    go_ret
    exact ⟨rfl, rfl⟩
  | false =>
    go_wp2_with fail
    go_ret
    exact ⟨rfl, rfl⟩
set_option maxRecDepth 100000 in
theorem none_ptr (T : TypeId) (hT : T = 39 ∨ T = 58) (x : Value) (w : World) : Calls Tryd.prog 20 #[.iface T x] w (QB false w) := by
  have h1 := ifaceNil T x
  have a1 : ∀ w, (Instr.typeAssert (.iface T x) 27 25 true).run Tryd.prog w = .ok (.tuple #[.int .i64 0, .bool false]) w := by
    intro w
    rcases hT with rfl | rfl
    · exact assertFE x w
    · exact assertJE x w
  clear hT
  go_enter Tryd.func20, Tryd.ntmps20
  go_wp2_with fail
  go_ret
  exact ⟨rfl, rfl⟩
/-- The number 0. -/
def okV : Value → Bool
  | .iface T (.int _ n) => T == 25 && n == 0
  | _ => false
theorem IsE.none_any {W : World} {B d k : Nat} {v : Value} {a : EA} (h : IsE W B d k v a) (w : World) : Calls Tryd.prog 20 #[v] w (QB (okV v) w) := by
  cases h with
  | num d n h0 h1 => exact none_num n w
  | fault d k b op nm x a hb hr h => exact none_ptr _ (.inl rfl) _ w
  | joined d b r o len c ks xs es hb hrb hr hl hlc hm hc h => exact none_ptr _ (.inr rfl) _ w
def WrapPost (op nm : ByteArray) (v : Value) (w : World) (e : Ending) (w' : World) : Prop := ∃ b, e = .returned (.iface 39 (.pointer (some ⟨b, 0, none⟩))) ∧ w.heap.size ≤ b ∧ w'.heap[b]? = some (.cells #[.string op, .string nm, v] 43 (0, 0)) ∧ Below w.heap.size w w'
set_option maxRecDepth 100000 in
theorem wrap_none (op nm : ByteArray) (v : Value) (w : World) (h : Calls Tryd.prog 20 #[v] w (QB true w)) : Calls Tryd.prog 10 #[.string op, .string nm, v] w fun e w' => e = .returned .nilIface ∧ w' = w := by
  have H := keep h
  clear h
  go_enter Tryd.func10, Tryd.ntmps10
  go_wp2_with fail
  refine H.out.mono ?_
  rintro e w1 ⟨rfl, rfl⟩
  go_wp2_with fail
  go_ret
  exact ⟨rfl, rfl⟩
set_option maxRecDepth 100000 in
theorem wrap_some (op nm : ByteArray) (T0 : TypeId) (x0 : Value) (w : World) (h : Calls Tryd.prog 20 #[.iface T0 x0] w (QB false w)) : Calls Tryd.prog 10 #[.string op, .string nm, .iface T0 x0] w (WrapPost op nm (.iface T0 x0) w) := by
  have H := keep h
  clear h
  go_enter Tryd.func10, Tryd.ntmps10
  go_wp2_with fail
  refine H.out.mono ?_
  rintro e w1 ⟨rfl, hw⟩
  rw [hw]
  clear hw
  go_wp2_with fail
  go_ret
  exact ⟨_, rfl, Nat.le_refl _, heap_alloc_new w _, (Below.refl _ _).alloc (Nat.le_refl _) _⟩
/-! ### errors.Is -/
theorem ifaceEE (n c : Int) (w : World) : (binOp .eql 27 (.iface 25 (.int .i64 n)) (.iface 25 (.int .i64 c))).run Tryd.prog w = .ok (.bool (n == c)) w := by kernel_rfl
theorem ifaceFE (x y : Value) (w : World) : (binOp .eql 27 (.iface 39 x) (.iface 25 y)).run Tryd.prog w = .ok (.bool false) w := run_eql_iface_types _ _ _ _ Tryd.underlying27 (by decide) w
theorem ifaceJE (x y : Value) (w : World) : (binOp .eql 27 (.iface 58 x) (.iface 25 y)).run Tryd.prog w = .ok (.bool false) w := run_eql_iface_types _ _ _ _ Tryd.underlying27 (by decide) w
def PB (r : Bool) (w : World) (e : Ending) (w' : World) : Prop := e = .returned (.bool r) ∧ Below w.heap.size w w'
set_option maxRecDepth 100000 in
set_option maxHeartbeats 4000000 in
theorem is_any (W : World) (B : Nat) (c : Int) (d : Nat) : ∀ (k : Nat) (v : Value) (a : EA), IsE W B d k v a → ∀ (w : World), Below B W w → B ≤ w.heap.size →
    Calls Tryd.prog 26 #[v, .iface 25 (.int .i64 c), .bool true] w (PB (decide (c ∈ a.nums)) w) := by
  induction d using Nat.strongRecOn with
  | ind d ih =>
  intro k v a hE w hW hBz
  have Hih := keep ih
  have HE := keep hE
  have HW := keep hW
  clear ih hE hW
  have nI := noIs
  go_enter Tryd.func26, Tryd.ntmps26
  go_wp2_with fail
  go_loopg [0] k (fun g v' wx => ∃ v1 a1, v1 = v' ∧ wx = w ∧ Keep (IsE W B d g v1 a1) ∧ Keep (a1.nums = a.nums))
  case atStart => exact ⟨v, a, rfl, rfl, HE, ⟨rfl⟩⟩
  case round =>
    obtain ⟨v1, a1, rfl, hwx, HE1, Hf⟩ := hrel
    rw [hwx]
    clear hwx
    have h := HE1.out
    cases h with
    | num d n h0 h1 =>
      have eE := ifaceEE n c
      have uE := unwE
      have lE := unlE
      have hr : decide (c ∈ a.nums) = (n == c) := by
        rw [← Hf.out, Bool.eq_iff_iff]
        simp only [List.mem_singleton, decide_eq_true_eq, beq_iff_eq]
        exact eq_comm
      have Hr := keep hr
      clear hr HE1 HE
      cases hb : (n == c) with
      | true =>
        rw [hb] at eE
        have hq := Hr.out
        rw [hb] at hq
        have Hq := keep hq
        clear hq
        go_wp2_with fail
        go_ret
        exact ⟨by rw [Hq.out]; rfl, Below.refl _ _⟩
      | false =>
        rw [hb] at eE
        have hq := Hr.out
        rw [hb] at hq
        have Hq := keep hq
        clear hq
        go_wp2_with fail
        go_ret
        exact ⟨by rw [Hq.out]; rfl, Below.refl _ _⟩
    | fault d k' b op nm x a2 hb hr hE2 =>
      have eF := ifaceFE
      have uF := unwF
      have mU := methUF
      have hun := unwrapF_any b op nm x w ((HW.out.block _ hb).trans hr)
      obtain ⟨T2, x2, hx2⟩ := hE2.iface
      have HE2 := keep hE2
      have Hun := keep hun
      subst hx2
      have hnil := ifaceNil T2 x2
      clear hE2 hun hr HE1 HE
      go_wp2_with fail
      refine Hun.out.mono ?_
      rintro e w3 ⟨rfl, hw3⟩
      rw [hw3]
      clear hw3
      go_wp2_with fail
      go_roundg k'
      case measure => omega
      case rel => exact ⟨_, a2, rfl, rfl, HE2, ⟨Hf.out⟩⟩
    | joined d b r o len c2 ks xs es hb hrb hr hl hlc hm hc hE2 =>
      have eJ := ifaceJE
      have uJ := unwJ
      have uL := unlJ
      have mU := methUJ
      have hun := unwrapJ_any b r o len c2 xs w ((HW.out.block _ hb).trans hr) hl hm (fun i hi => (HW.out.cell (p := ⟨r, o + i, none⟩) hrb).trans (hc i hi)) (fun i hi => iface_one (hE2 i hi))
      have Hun := keep hun
      have HE2 := keep hE2
      clear hE2 hun hr hc HE1 HE
      go_wp2_with fail
      refine Hun.out.mono ?_
      rintro e w3 ⟨r3, c3, rfl, hc3, hr3, hB3⟩
      have Hc3 := keep hc3
      have HB3 := keep hB3
      clear hc3 hB3
      go_wp2_with fail
      go_loopw [45] (fun i wr => ∃ j : Nat, i = .int .i64 j ∧ j ≤ len ∧ Keep (Below w3.heap.size w3 wr) ∧ Keep (∀ q, q < j → c ∉ (es q).nums)) (fun i _ => len - (intOf i).toNat)
      case atStart => exact ⟨0, rfl, Nat.zero_le _, ⟨Below.refl _ _⟩, ⟨fun q hq => absurd hq (by omega)⟩⟩
      case round =>
        obtain ⟨j, rfl, hj, HBr, Hno⟩ := hrel
        have hb4 := HB3.out.trans (HBr.out.mono HB3.out.size)
        have Hb4 := keep hb4
        have hz4 := hb4.size
        clear hb4
        by_cases hjl : j < len
        · have ht : decide ((j : Int) < (len : Int)) = true := by simp; omega
          have hk0 : (0 : Int) ≤ (j : Int) := by omega
          have hk1 : (j : Int) < (len : Int) := by omega
          have hcj : wr.cell? ⟨r3, j, none⟩ = some (xs j) := (HBr.out.cell (p := ⟨r3, j, none⟩) hr3).trans (Hc3.out j hjl)
          have hrec := Hih.out d (Nat.lt_succ_self d) (ks j) (xs j) (es j) (HE2.out j hjl) wr (HW.out.trans (Hb4.out.mono hBz)) (Nat.le_trans hBz hz4)
          have Hrec := keep hrec
          clear hrec
          by_cases hm : c ∈ (es j).nums
          · have hr : decide (c ∈ a.nums) = true := by
              rw [← Hf.out]
              simp only [decide_eq_true_eq, List.mem_flatMap, List.mem_range]
              exact ⟨j, hjl, hm⟩
            have Hr := keep hr
            have hrj : decide (c ∈ (es j).nums) = true := by simpa using hm
            rw [hrj] at Hrec
            clear hr hrj hm
            go_wp2_with fail
            refine Hrec.out.mono ?_
            rintro e w5 ⟨rfl, hB5⟩
            have hp := Hb4.out.trans (hB5.mono Hb4.out.size)
            clear hB5
            go_wp2_with fail
            go_ret
            exact ⟨by rw [Hr.out]; rfl, hp⟩
          · have hrj : decide (c ∈ (es j).nums) = false := by simpa using hm
            rw [hrj] at Hrec
            have Hm := keep hm
            clear hrj hm
            go_wp2_with fail
            refine Hrec.out.mono ?_
            rintro e w5 ⟨rfl, hB5⟩
            have hp := HBr.out.trans (hB5.mono HBr.out.size)
            have Hp := keep hp
            clear hB5 hp
            go_wp2_with fail
            go_roundw
            case rel =>
              refine ⟨j + 1, by go_num, by omega, Hp, ⟨fun q hq => ?_⟩⟩
              rcases Nat.lt_or_ge q j with h | h
              · exact Hno.out q h
              · obtain rfl : q = j := by omega
                exact Hm.out
            case measure => simp [intOf]; omega
        · obtain rfl : j = len := by omega
          have ht : decide ((j : Int) < (j : Int)) = false := by simp
          have hr : decide (c ∈ a.nums) = false := by
            rw [← Hf.out]
            simp only [decide_eq_false_iff_not, List.mem_flatMap, List.mem_range]
            rintro ⟨q, hq, hm⟩
            exact Hno.out q hq hm
          have Hr := keep hr
          clear hr
          go_wp2_with fail
          go_ret
          exact ⟨by rw [Hr.out]; rfl, Hb4.out⟩
theorem methodComp (h : Value) (w : World) : (Go.method 248 79 (.agg #[h]) "Comparable").run Tryd.prog w = .ok (82, .agg #[h]) w := by kernel_rfl
theorem compE (w : World) : (callFunc 82 #[.agg #[.pointer (some ⟨5, 25, none⟩)]]).run Tryd.prog w = .ok (.value (.bool true)) w := by kernel_rfl
set_option maxRecDepth 100000 in
set_option maxHeartbeats 2000000 in
theorem errIs_any {W : World} {B d k : Nat} {v : Value} {a : EA} (h : IsE W B d k v a) (c : Int) (w : World) (hW : Below B W w) (hBz : B ≤ w.heap.size) : Calls Tryd.prog 22 #[v, .iface 25 (.int .i64 c)] w (PB (decide (c ∈ a.nums)) w) := by
  have hi := keep (is_any W B c d k v a h w hW hBz)
  obtain ⟨T0, x0, hx0⟩ := h.iface
  subst hx0
  have hn1 := ifaceNil T0 x0
  have hn2 := ifaceNil 25 (.int .i64 c)
  have xT := ext_TypeOf
  have tO := typeOfE
  have mC := methodComp
  have cE := compE
  clear h hW
  go_enter Tryd.func22, Tryd.ntmps22
  go_wp2_with fail
  refine hi.out.mono ?_
  rintro e w1 ⟨rfl, hB⟩
  go_wp2_with fail
  go_ret
  exact ⟨rfl, hB⟩
set_option maxRecDepth 100000 in
set_option maxHeartbeats 2000000 in
theorem faultIs_any {W : World} {B d k : Nat} {v : Value} {a : EA} (h : IsE W B d k v a) (c : Int) (hc : c ≠ 0) (w : World) (hW : Below B W w) (hBz : B ≤ w.heap.size) : Calls Tryd.prog 12 #[v, .int .i64 c] w (PB (decide (c ∈ a.nums)) w) := by
  have hi := keep (errIs_any h c w hW hBz)
  obtain ⟨T0, x0, hx0⟩ := h.iface
  subst hx0
  have hn1 := ifaceNeq T0 x0
  have hc0 : (c == 0) = false := by simpa using hc
  clear h hW hc
  go_enter Tryd.func12, Tryd.ntmps12
  go_wp2_with fail
  refine hi.out.mono ?_
  rintro e w1 ⟨rfl, hB⟩
  cases hr : decide (c ∈ a.nums) <;>
  · have Hr := keep hr
    clear hr
    go_wp2_with fail
    go_ret
    exact ⟨by rw [Hr.out]; rfl, hB⟩
set_option maxRecDepth 100000 in
theorem faultIs_ok (v : Value) (r : Bool) (w : World) (h : Calls Tryd.prog 20 #[v] w (QB r w)) : Calls Tryd.prog 12 #[v, .int .i64 0] w (QB r w) := by
  have hi := keep h
  clear h
  go_enter Tryd.func12, Tryd.ntmps12
  go_wp2_with fail
  refine hi.out.mono ?_
  rintro e w1 ⟨rfl, hw⟩
  rw [hw]
  clear hw
  go_wp2_with fail
  go_ret
  exact ⟨rfl, rfl⟩
end Go.Proofs.YthamnnhpagllcaaDoor
