/- Errors, each wrapped once, that are joined and wrapped on. -/
import Derived.Test.YthamnnhpagllcaaDoorErrM
namespace Go.Proofs.YthamnnhpagllcaaDoor
open Go.RowKit Go.Extern.Stop Go.Stop Go.Extern

def opN : Nat → ByteArray := fun _ => ⟨#[105, 110]⟩
def nmN : Nat → ByteArray := fun _ => ⟨#[120]⟩
def eN (c : Int) : EA := eaAt opN nmN c 1
theorem eN_txt (c : Int) : (eN c).txt = [105, 110, 32, 120, 58, 32, 101, 114, 114, 32] ++ Lib.itoa c := rfl
/-- The numbers that are none left out. -/
def nz (z : Nat → Int) : Nat → List Int
  | 0 => []
  | j + 1 => if z j = 0 then nz z j else nz z j ++ [z j]
theorem nz_length (z : Nat → Int) : ∀ j, (nz z j).length ≤ j
  | 0 => Nat.le_refl _
  | j + 1 => by
    have := nz_length z j
    rw [nz]
    split
    · omega
    · rw [List.length_append]; simp; omega
theorem nz_mem {z : Nat → Int} {i : Nat} (hi : z i ≠ 0) : ∀ {j}, i < j → z i ∈ nz z j
  | j + 1, h => by
    rw [nz]
    rcases Nat.lt_succ_iff_lt_or_eq.1 h with h | rfl
    · have := nz_mem hi h
      split
      · exact this
      · exact List.mem_append_left _ this
    · rw [if_neg hi]
      exact List.mem_append_right _ (by simp)
theorem nz_ne {z : Nat → Int} {c : Int} : ∀ {j}, c ∈ nz z j → c ≠ 0
  | j + 1, h => by
    rw [nz] at h
    split at h
    · exact nz_ne h
    · rcases List.mem_append.1 h with h | h
      · exact nz_ne h
      · rw [List.mem_singleton.1 h]; assumption
def ctxt (cs : List Int) : List UInt8 := Lib.join (cs.map fun c => (eN c).txt) [10]
def cfirst (cs : List Int) : Int := cs.head?.getD 0
theorem cfirst_zero {z : Nat → Int} {j : Nat} (h : cfirst (nz z j) = 0) : nz z j = [] := by
  cases hh : nz z j with
  | nil => rfl
  | cons a r =>
    rw [hh] at h
    exact absurd h (nz_ne (z := z) (j := j) (by rw [hh]; exact List.mem_cons_self ..))
theorem cfirst_ne {z : Nat → Int} {j : Nat} (h : cfirst (nz z j) ≠ 0) : nz z j ≠ [] := fun h' => h (by rw [h']; rfl)
theorem nz_zero {z : Nat → Int} {j : Nat} (h : z j = 0) : nz z (j + 1) = nz z j := by rw [nz, if_pos h]
theorem nz_one {z : Nat → Int} {j : Nat} (h : z j ≠ 0) : nz z (j + 1) = nz z j ++ [z j] := by rw [nz, if_neg h]
theorem ctxt_one (c : Int) : ctxt ([] ++ [c]) = (eN c).txt := Lib.join_one _ _
theorem ctxt_more {cs : List Int} (c : Int) (h : cs ≠ []) : ctxt (cs ++ [c]) = ctxt cs ++ [10] ++ (eN c).txt := by
  rw [ctxt, List.map_append, List.map_cons, List.map_nil, join_snoc, if_neg (by simpa using h)]
  rfl
theorem cfirst_more {cs : List Int} (c : Int) (h : cs ≠ []) : cfirst (cs ++ [c]) = cfirst cs := by
  cases cs with
  | nil => exact absurd rfl h
  | cons a r => rfl
theorem eN_length {c : Int} (h0 : -9223372036854775808 ≤ c) (h1 : c ≤ 9223372036854775807) : (eN c).txt.length ≤ 40 := by
  have := Lib.itoa_length_le c h0 h1
  rw [eN_txt, List.length_append, List.length_cons]
  simp only [List.length_cons, List.length_nil]
  omega
theorem ctxt_length {z : Nat → Int} (hz : ∀ i, -9223372036854775808 ≤ z i ∧ z i ≤ 9223372036854775807) : ∀ j, (ctxt (nz z j)).length ≤ 41 * j
  | 0 => Nat.le_refl _
  | j + 1 => by
    have ih := ctxt_length hz j
    have he := eN_length (hz j).1 (hz j).2
    by_cases h : z j = 0
    · rw [nz_zero h]; omega
    · rw [nz_one h]
      by_cases hc : nz z j = []
      · rw [hc, ctxt_one]; omega
      · rw [ctxt_more _ hc]
        simp only [List.length_append, List.length_cons, List.length_nil]
        omega
/-- The list so far. -/
structure MAt (W : World) (cs : List Int) (xs : List Value) : Prop where
  len : xs.length = cs.length
  el : ∀ (i : Nat) c, cs[i]? = some c → c ≠ 0 ∧ ∃ v, xs[i]? = some v ∧ IsE W W.heap.size 0 1 v (eN c)
theorem MAt.nil (W : World) : MAt W [] [] := ⟨rfl, fun i c h => by simp at h⟩
theorem MAt.below {W W' : World} {cs : List Int} {xs : List Value} (h : MAt W cs xs) (hb : Below W.heap.size W W') : MAt W' cs xs :=
  ⟨h.len, fun i c hc => by
    obtain ⟨h1, v, h2, h3⟩ := h.el i c hc
    exact ⟨h1, v, h2, (h3.under hb).more hb.size⟩⟩
theorem MAt.grown {W W' : World} {cs : List Int} {xs : List Value} {row : Option Nat} (h : MAt W cs xs) (hg : W.grownBy W' row) (hr : ∀ g, row = some g → ∃ cur fr, W.heap[g]? = some (.cells cur 27 fr)) : MAt W' cs xs :=
  ⟨h.len, fun i c hc => by
    obtain ⟨h1, v, h2, h3⟩ := h.el i c hc
    exact ⟨h1, v, h2, h3.grown0 hg hr⟩⟩
theorem MAt.step {W : World} {cs : List Int} {xs : List Value} {c : Int} {v : Value} (h : MAt W cs xs) (hc : c ≠ 0) (hv : IsE W W.heap.size 0 1 v (eN c)) : MAt W (cs ++ [c]) (xs ++ [v]) := by
  refine ⟨by rw [List.length_append, List.length_append, h.len]; rfl, fun i c' hi => ?_⟩
  rcases Nat.lt_or_ge i cs.length with hlt | hge
  · rw [List.getElem?_append_left hlt] at hi
    obtain ⟨h1, u, h2, h3⟩ := h.el i c' hi
    exact ⟨h1, u, by rw [List.getElem?_append_left (by rw [h.len]; exact hlt)]; exact h2, h3⟩
  · rw [List.getElem?_append_right hge] at hi
    have hi0 : i - cs.length = 0 := by
      have := (List.getElem?_eq_some_iff.1 hi).1
      simp at this
      omega
    rw [hi0] at hi
    simp only [List.getElem?_cons_zero, Option.some.injEq] at hi
    subst hi
    exact ⟨hc, v, by rw [List.getElem?_append_right (by rw [h.len]; exact hge), h.len, hi0]; rfl, hv⟩
theorem MAt.at_ {W : World} {cs : List Int} {xs : List Value} (h : MAt W cs xs) {v : Value} (hv : v ∈ xs) : ∃ c, c ≠ 0 ∧ IsE W W.heap.size 0 1 v (eN c) := by
  obtain ⟨i, hi⟩ := List.mem_iff_getElem?.1 hv
  have hlt := (List.getElem?_eq_some_iff.1 hi).1
  rw [h.len] at hlt
  obtain ⟨h1, u, h2, h3⟩ := h.el i _ (List.getElem?_eq_getElem hlt)
  rw [hi] at h2
  cases h2
  exact ⟨_, h1, h3⟩
theorem MAt.elE {W : World} {cs : List Int} {xs : List Value} (h : MAt W cs xs) : ∀ v ∈ xs, ElE W W.heap.size v := fun v hv => by
  obtain ⟨c, _, h1⟩ := h.at_ hv
  exact .inr ⟨_, _, _, h1⟩
theorem live_of {W : World} {B d k : Nat} {v : Value} {a : EA} (h : IsE W B d k v a) (hc : a.first ≠ 0) : live v = true := by
  have h1 := h.okV_false hc
  obtain ⟨T, x, rfl⟩ := h.iface
  show (!okV (.iface T x)) = true
  rw [h1]; rfl
theorem MAt.filter {W : World} {cs : List Int} {xs : List Value} (h : MAt W cs xs) : xs.filter live = xs := by
  rw [List.filter_eq_self]
  intro v hv
  obtain ⟨c, hc, h1⟩ := h.at_ hv
  exact live_of h1 hc
/-- What joining comes to. -/
def Nest (cs : List Int) (w : World) (e : Ending) (w' : World) : Prop :=
  Below w.heap.size w w' ∧ ((cs = [] ∧ e = .returned .nilIface) ∨ (cs ≠ [] ∧ ∃ v d k, e = .returned v ∧ IsE w' w'.heap.size d k v ⟨cfirst cs, [opN 0], ctxt cs, cs⟩))
theorem nest_of {w : World} {cs : List Int} {xs : List Value} (h : MAt w cs xs) (hj : cs.length ≤ 1000) {e : Ending} {w' : World} (hp : JoinPost (xs.filter live) w e w') : Nest cs w e w' := by
  rw [h.filter] at hp
  obtain ⟨hB, hp⟩ := hp
  refine ⟨hB, ?_⟩
  rcases hp with ⟨h4, he⟩ | ⟨x, h4, he⟩ | ⟨h4, b, r, c, he, hb1, hb2, hr1, hr2, hc1, hc2⟩
  · left
    refine ⟨?_, he⟩
    have := h.len
    rw [h4] at this
    exact List.eq_nil_of_length_eq_zero this.symm
  · right
    subst h4
    have hl := h.len
    match cs, h, hl with
    | [c], h, _ =>
      obtain ⟨_, v, hv, hE⟩ := h.el 0 c rfl
      simp only [List.getElem?_cons_zero, Option.some.injEq] at hv
      subst hv
      refine ⟨by simp, x, 0, 1, he, ?_⟩
      have e1 : (⟨cfirst [c], [opN 0], ctxt [c], [c]⟩ : EA) = eN c := by
        have : ctxt [c] = (eN c).txt := ctxt_one c
        rw [this]; rfl
      rw [e1]
      exact (hE.under hB).more hB.size
  · right
    have hl := h.len
    have hat : ∀ i, i < cs.length → ∃ v, xs[i]? = some v ∧ IsE w w.heap.size 0 1 v (eN (cs.getD i 0)) := fun i hi => by
      obtain ⟨_, v, hv, hE⟩ := h.el i _ (List.getElem?_eq_getElem hi)
      exact ⟨v, hv, by rw [List.getD_eq_getElem?_getD, List.getElem?_eq_getElem hi]; exact hE⟩
    have hJ := IsE.joined (W := w') (B := w'.heap.size) 0 b r 0 xs.length c (fun _ => 1) (fun i => xs.getD i .nilIface) (fun i => eN (cs.getD i 0)) (row_lt hb2) hr1 hb2 (by omega) hc1 (by omega)
      (fun i hi => hc2 i _ (by rw [List.getD_eq_getElem?_getD, List.getElem?_eq_getElem hi]; rfl)) (fun i hi => by
        obtain ⟨v, hv, hE⟩ := hat i (by omega)
        rw [List.getD_eq_getElem?_getD, hv]
        exact (hE.under hB).more hB.size)
    have hmap : ∀ {β : Type} (f : Int → β), (List.range xs.length).map (fun i => f (cs.getD i 0)) = cs.map f := by
      intro β f
      apply List.ext_getElem?
      intro i
      rw [List.getElem?_map, List.getElem?_map]
      by_cases hi : i < xs.length
      · rw [List.getElem?_range hi, List.getElem?_eq_getElem (by omega)]
        simp [List.getD_eq_getElem?_getD, List.getElem?_eq_getElem (show i < cs.length by omega)]
      · rw [List.getElem?_eq_none (by simp; omega), List.getElem?_eq_none (by omega)]; rfl
    refine ⟨fun h' => by rw [hl, h'] at h4; simp at h4, _, 1, 0, he, ?_⟩
    have e1 : (⟨cfirst cs, [opN 0], ctxt cs, cs⟩ : EA) = ⟨(eN (cs.getD 0 0)).first, (eN (cs.getD 0 0)).ops, Lib.join ((List.range xs.length).map fun i => (eN (cs.getD i 0)).txt) [10], (List.range xs.length).flatMap fun i => (eN (cs.getD i 0)).nums⟩ := by
      rw [hmap (fun c => (eN c).txt)]
      have h3 : ((List.range xs.length).flatMap fun i => (eN (cs.getD i 0)).nums) = cs := by
        have h5 := hmap (fun c => c)
        rw [List.map_id'] at h5
        rw [List.flatMap]
        have : (List.range xs.length).map (fun i => (eN (cs.getD i 0)).nums) = (List.range xs.length).map (fun i => [cs.getD i 0]) := rfl
        rw [this]
        refine Eq.trans ?_ h5
        induction List.range xs.length with
        | nil => rfl
        | cons a r ih => rw [List.map_cons, List.flatten_cons, ih, List.map_cons]; rfl
      rw [h3]
      cases cs with
      | nil => rw [hl] at h4; simp at h4
      | cons a r => rfl
    rw [e1]
    exact hJ
/-! ### Wrapped on -/
def wtx (op t : List UInt8) : Nat → List UInt8
  | 0 => t
  | m + 1 => op ++ [32] ++ Lib.itoa (m : Int) ++ [58, 32] ++ wtx op t m
theorem wtx_length (op t : List UInt8) (ho : op.length ≤ 30) : ∀ m, m ≤ 4 → (wtx op t m).length ≤ t.length + 60 * m
  | 0, _ => Nat.le_refl _
  | m + 1, h => by
    have := wtx_length op t ho m (by omega)
    have h2 := Lib.itoa_length_le (m : Int) (by omega) (by omega)
    simp only [wtx, List.length_append, List.length_cons, List.length_nil]
    omega
def aN (cs : List Int) (op : ByteArray) (m : Nat) : EA := ⟨cfirst cs, List.replicate m op ++ [opN 0], wtx op.data.toList (ctxt cs) m, cs⟩
structure WAt (W : World) (cs : List Int) (op : ByteArray) (m : Nat) (v : Value) : Prop where
  out : (cs = [] ∧ v = .nilIface) ∨ (cs ≠ [] ∧ ∃ d k, IsE W W.heap.size d k v (aN cs op m))
theorem WAt.below {W W' : World} {cs : List Int} {op : ByteArray} {m : Nat} {v : Value} (h : WAt W cs op m v) (hb : Below W.heap.size W W') : WAt W' cs op m v := by
  rcases h.out with h | ⟨h1, d, k, h2⟩
  · exact ⟨.inl h⟩
  · exact ⟨.inr ⟨h1, d, k, (h2.under hb).more hb.size⟩⟩
theorem WAt.wrap {w : World} {cs : List Int} {op : ByteArray} {m : Nat} {v : Value} (hz : cs ≠ [] → cfirst cs ≠ 0) (h : WAt w cs op m v) :
    Calls Tryd.prog 10 #[.string op, .string ⟨(Lib.itoa (m : Int)).toArray⟩, v] w (fun e w' => ∃ u, e = .returned u ∧ WAt w' cs op (m + 1) u ∧ Below w.heap.size w w') := by
  rcases h.out with ⟨h1, rfl⟩ | ⟨h1, d, k, h2⟩
  · exact (wrap_none _ _ .nilIface w (none_nil w)).mono fun e w' ⟨he, hw⟩ => ⟨.nilIface, he, ⟨.inl ⟨h1, rfl⟩⟩, by rw [hw]; exact Below.refl _ _⟩
  · have hno := h2.none_any w
    rw [h2.okV_false (hz h1)] at hno
    obtain ⟨T, x, hx⟩ := h2.iface
    rw [hx] at hno
    have hw := wrap_some op ⟨(Lib.itoa (m : Int)).toArray⟩ T x w hno
    rw [← hx] at hw
    refine hw.mono ?_
    rintro e w' ⟨b, rfl, _, hr, hB⟩
    exact ⟨_, rfl, ⟨.inr ⟨h1, d, k + 1, h2.wrapped hB hr⟩⟩, hB⟩
/-- The law's own question. -/
theorem isLaw_any {W : World} {B d k : Nat} {v : Value} {a : EA} (h : IsE W B d k v a) (c : Int) (w : World) (hW : Below B W w) (hBz : B ≤ w.heap.size) : Calls Tryd.prog 17 #[v, .int .i64 c] w (PB (decide (c ∈ a.nums)) w) := by
  have hI := errIs_any h c w hW hBz
  have HI := keep hI
  clear hI
  go_enter Tryd.func17, Tryd.ntmps17
  go_wp2_with fail
  refine HI.out.mono ?_
  rintro e w1 ⟨rfl, hB⟩
  go_wp2_with fail
  go_ret
  exact ⟨rfl, hB⟩
end Go.Proofs.YthamnnhpagllcaaDoor
