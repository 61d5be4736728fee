/- A list of errors that grows; what joining it comes to. -/
import Derived.Test.YthamnnhpagllcaaDoorErrK
namespace Go.Proofs.YthamnnhpagllcaaDoor
open Go.RowKit Go.Extern.Stop Go.Stop Go.Extern

def opC : Nat → ByteArray := fun _ => ⟨#[111, 112]⟩
def nmC : Nat → ByteArray := fun _ => ⟨#[110]⟩
def lev (b : Bool) : Nat := if b then 1 else 0
/-- What a number's error says, wrapped or not. -/
def elt (c : Int) (b : Bool) : List UInt8 := txtAt opC nmC c (lev b)
theorem elt_false (c : Int) : elt c false = [101, 114, 114, 32] ++ Lib.itoa c := rfl
theorem elt_true (c : Int) : elt c true = [111, 112, 32, 110, 58, 32] ++ ([101, 114, 114, 32] ++ Lib.itoa c) := rfl
theorem elt_length {c : Int} (h0 : -9223372036854775808 ≤ c) (h1 : c ≤ 9223372036854775807) (b : Bool) : (elt c b).length ≤ 40 := by
  have := Lib.itoa_length_le c h0 h1
  cases b <;> simp only [elt_false, elt_true, List.length_append, List.length_cons, List.length_nil] <;> omega
/-- The errors that are: their numbers, their texts. -/
def csAt (z : Nat → Int) (y : Nat → Bool) : Nat → List (Int × List UInt8)
  | 0 => []
  | j + 1 => if z j = 0 then csAt z y j else csAt z y j ++ [(z j, elt (z j) (y j))]
theorem csAt_length (z : Nat → Int) (y : Nat → Bool) : ∀ j, (csAt z y j).length ≤ j
  | 0 => Nat.le_refl _
  | j + 1 => by
    have := csAt_length z y j
    rw [csAt]
    split
    · omega
    · rw [List.length_append]; simp; omega
theorem csAt_mem {z : Nat → Int} {y : Nat → Bool} {i : Nat} (hi : z i ≠ 0) : ∀ {j}, i < j → z i ∈ (csAt z y j).map Prod.fst
  | j + 1, h => by
    rw [csAt]
    rcases Nat.lt_succ_iff_lt_or_eq.1 h with h | rfl
    · have := csAt_mem (y := y) hi h
      split
      · exact this
      · rw [List.map_append]; exact List.mem_append_left _ this
    · rw [if_neg hi, List.map_append]
      exact List.mem_append_right _ (by simp)
theorem join_snoc (xs : List (List UInt8)) (x sep : List UInt8) : Lib.join (xs ++ [x]) sep = if xs = [] then x else Lib.join xs sep ++ sep ++ x := by
  cases xs with
  | nil => simp [Lib.join_one]
  | cons a r =>
    rw [if_neg (by simp), List.cons_append, Lib.join_cons, Lib.join_cons]
    simp [Lib.joinTail]
def jtxt (z : Nat → Int) (y : Nat → Bool) (j : Nat) : List UInt8 := Lib.join ((csAt z y j).map Prod.snd) [10]
def jfirst (z : Nat → Int) (y : Nat → Bool) (j : Nat) : Int := ((csAt z y j).head?.map Prod.fst).getD 0
theorem jtxt_zero {z : Nat → Int} {y : Nat → Bool} {j : Nat} (h : z j = 0) : jtxt z y (j + 1) = jtxt z y j := by rw [jtxt, csAt, if_pos h]; rfl
theorem jfirst_zero {z : Nat → Int} {y : Nat → Bool} {j : Nat} (h : z j = 0) : jfirst z y (j + 1) = jfirst z y j := by rw [jfirst, csAt, if_pos h]; rfl
theorem jlen_zero {z : Nat → Int} {y : Nat → Bool} {j : Nat} (h : z j = 0) : (csAt z y (j + 1)).length = (csAt z y j).length := by rw [csAt, if_pos h]
theorem jlen_one {z : Nat → Int} {y : Nat → Bool} {j : Nat} (h : z j ≠ 0) : (csAt z y (j + 1)).length = (csAt z y j).length + 1 := by rw [csAt, if_neg h, List.length_append]; rfl
theorem jtxt_head {z : Nat → Int} {y : Nat → Bool} {j : Nat} (h : z j ≠ 0) (hc : (csAt z y j).length = 0) : jtxt z y (j + 1) = elt (z j) (y j) ∧ jtxt z y j = [] := by
  have e : csAt z y j = [] := List.eq_nil_of_length_eq_zero hc
  rw [jtxt, csAt, if_neg h, jtxt, e]
  exact ⟨Lib.join_one _ _, rfl⟩
theorem jfirst_head {z : Nat → Int} {y : Nat → Bool} {j : Nat} (h : z j ≠ 0) (hc : (csAt z y j).length = 0) : jfirst z y (j + 1) = z j := by
  have e : csAt z y j = [] := List.eq_nil_of_length_eq_zero hc
  rw [jfirst, csAt, if_neg h, e]; rfl
theorem jtxt_more {z : Nat → Int} {y : Nat → Bool} {j : Nat} (h : z j ≠ 0) (hc : (csAt z y j).length ≠ 0) : jtxt z y (j + 1) = jtxt z y j ++ [10] ++ elt (z j) (y j) := by
  rw [jtxt, csAt, if_neg h, List.map_append, List.map_cons, List.map_nil, join_snoc, if_neg (by intro h'; apply hc; simpa using congrArg List.length h')]
  rfl
theorem jfirst_more {z : Nat → Int} {y : Nat → Bool} {j : Nat} (h : z j ≠ 0) (hc : (csAt z y j).length ≠ 0) : jfirst z y (j + 1) = jfirst z y j := by
  rw [jfirst, csAt, if_neg h, jfirst]
  cases hh : csAt z y j with
  | nil => rw [hh] at hc; exact absurd rfl hc
  | cons a r => rfl
theorem jtxt_length {z : Nat → Int} {y : Nat → Bool} (hz : ∀ i, -9223372036854775808 ≤ z i ∧ z i ≤ 9223372036854775807) : ∀ j, (jtxt z y j).length ≤ 41 * j
  | 0 => Nat.le_refl _
  | j + 1 => by
    have ih := jtxt_length (y := y) hz j
    have he := elt_length (hz j).1 (hz j).2 (y j)
    by_cases h : z j = 0
    · rw [jtxt_zero h]; omega
    · by_cases hc : (csAt z y j).length = 0
      · rw [(jtxt_head h hc).1]; omega
      · rw [jtxt_more h hc]
        simp only [List.length_append, List.length_cons, List.length_nil]
        omega
/-- nil, or an error that is no joined one. -/
def El0 (W : World) (v : Value) : Prop := v = .nilIface ∨ ∃ k a, IsE W W.heap.size 0 k v a
theorem El0.elE {W : World} {v : Value} (h : El0 W v) : ElE W W.heap.size v := h.imp id fun ⟨k, a, h⟩ => ⟨0, k, a, h⟩
/-- The list so far. -/
structure LAt (W : World) (z : Nat → Int) (y : Nat → Bool) (j : Nat) (xs : List Value) : Prop where
  len : xs.length = j
  el : ∀ v ∈ xs, El0 W v
  es : ∃ es : List (Value × EA), xs.filter live = es.map Prod.fst ∧ (∀ p ∈ es, (∃ k, IsE W W.heap.size 0 k p.1 p.2) ∧ p.2.ops.length ≤ 1 ∧ p.2.nums = [p.2.first]) ∧ es.map (fun p => (p.2.first, p.2.txt)) = csAt z y j
theorem El0.below {W W' : World} {v : Value} (h : El0 W v) (hb : Below W.heap.size W W') : El0 W' v := by
  rcases h with h | ⟨k, a, h⟩
  · exact .inl h
  · exact .inr ⟨k, a, (h.under hb).more hb.size⟩
theorem LAt.below {W W' : World} {z : Nat → Int} {y : Nat → Bool} {j : Nat} {xs : List Value} (h : LAt W z y j xs) (hb : Below W.heap.size W W') : LAt W' z y j xs := by
  obtain ⟨es, h1, h2, h3⟩ := h.es
  exact ⟨h.len, fun v hv => (h.el v hv).below hb, es, h1, fun p hp => ⟨by obtain ⟨k, hk⟩ := (h2 p hp).1; exact ⟨k, (hk.under hb).more hb.size⟩, (h2 p hp).2⟩, h3⟩
theorem IsE.grown0 {W W' : World} {k : Nat} {v : Value} {a : EA} {row : Option Nat} (h : IsE W W.heap.size 0 k v a) (hg : W.grownBy W' row) (hr : ∀ g, row = some g → ∃ cur fr, W.heap[g]? = some (.cells cur 27 fr)) : IsE W' W'.heap.size 0 k v a := by
  generalize hd : (0 : Nat) = d at h
  generalize hB : W.heap.size = B at h
  induction h with
  | num d n h0 h1 => exact .num d n h0 h1
  | fault d k b op nm x a hbB hb _ ih =>
    subst hB
    refine .fault d k b op nm x a (Nat.lt_of_lt_of_le hbB hg.size) ?_ (ih hd)
    rw [hg.block b hbB (fun hgr => ?_)]
    · exact hb
    · obtain ⟨cur, fr, hc⟩ := hr b hgr.symm
      rw [hb] at hc
      simp at hc
  | joined d b r o len c ks xs es hbB hrb hr' hl hlc hm hc _ ih => omega
theorem LAt.grown {W W' : World} {z : Nat → Int} {y : Nat → Bool} {j : Nat} {xs : List Value} {row : Option Nat} (h : LAt W z y j xs) (hg : W.grownBy W' row) (hr : ∀ g, row = some g → ∃ cur fr, W.heap[g]? = some (.cells cur 27 fr)) : LAt W' z y j xs := by
  obtain ⟨es, h1, h2, h3⟩ := h.es
  exact ⟨h.len, fun v hv => (h.el v hv).imp id fun ⟨k, a, hk⟩ => ⟨k, a, hk.grown0 hg hr⟩, es, h1, fun p hp => ⟨by obtain ⟨k, hk⟩ := (h2 p hp).1; exact ⟨k, hk.grown0 hg hr⟩, (h2 p hp).2⟩, h3⟩
theorem own_typed {w : World} {base n : Nat} {v : Value} {xs : List Value} (h : w.ownsRow base 27 1 v n xs) : ∀ g, v.ownBlock = some g → ∃ cur fr, w.heap[g]? = some (.cells cur 27 fr) := by
  intro g hg
  rcases h.2 with ⟨rfl, _⟩ | ⟨g', cap, cur, rfl, hb, hc, _⟩
  · simp [Value.ownBlock] at hg
  · simp only [Value.ownBlock, Option.some.injEq] at hg
    exact ⟨cur, _, hg ▸ hc⟩
theorem own_slice {w : World} {base n : Nat} {v : Value} {xs : List Value} (h : w.ownsRow base 27 1 v n xs) : ∃ A c, v = .slice A n c ∧ Reads w w.heap.size 1 A n xs := by
  rcases h.2 with ⟨rfl, hn⟩ | ⟨g, cap, cur, rfl, _, _, hnc, _⟩
  · exact ⟨none, 0, by rw [hn], Reads.of_own (base := base) (e := 27) (c := 0) (by subst hn; exact h)⟩
  · exact ⟨_, cap, rfl, Reads.of_own h⟩
theorem LAt.nil (W : World) (z : Nat → Int) (y : Nat → Bool) : LAt W z y 0 [] := ⟨rfl, by simp, [], rfl, by simp, rfl⟩
theorem EAt.elE {W : World} {c : Int} {j : Nat} {v : Value} (h : EAt W opC nmC c j v) : El0 W v := by
  rcases h with ⟨_, _, h⟩ | ⟨_, h⟩
  · exact .inl h
  · exact .inr ⟨_, _, h⟩
theorem EAt.live_eq {W : World} {op nm : Nat → ByteArray} {c : Int} {j : Nat} {v : Value} (h : EAt W op nm c j v) : live v = (c != 0) := by
  rcases h with ⟨rfl, _, rfl⟩ | ⟨h1, h2⟩
  · rfl
  · obtain ⟨T, x, rfl⟩ := h2.iface
    show (!okV (.iface T x)) = _
    rw [okV_eq h1 h2]
    rfl
theorem LAt.step {W : World} {z : Nat → Int} {y : Nat → Bool} {j : Nat} {xs : List Value} {v : Value} (h : LAt W z y j xs) (hv : EAt W opC nmC (z j) (lev (y j)) v) : LAt W z y (j + 1) (xs ++ [v]) := by
  obtain ⟨es, h1, h2, h3⟩ := h.es
  refine ⟨by rw [List.length_append, h.len]; rfl, fun u hu => ?_, ?_⟩
  · rcases List.mem_append.1 hu with hu | hu
    · exact h.el u hu
    · rw [List.mem_singleton.1 hu]; exact hv.elE
  · have hl := hv.live_eq
    by_cases hz : z j = 0
    · refine ⟨es, ?_, h2, by rw [csAt, if_pos hz]; exact h3⟩
      rw [List.filter_append, h1, List.filter_cons_of_neg (by rw [hl, hz]; decide), List.filter_nil, List.append_nil]
    · rcases hv with ⟨hz', _, _⟩ | ⟨_, hE⟩
      · exact absurd hz' hz
      · refine ⟨es ++ [(v, eaAt opC nmC (z j) (lev (y j)))], ?_, fun p hp => ?_, ?_⟩
        · rw [List.filter_append, h1, List.filter_cons_of_pos (by rw [hl]; simpa using hz), List.filter_nil, List.map_append]; rfl
        · rcases List.mem_append.1 hp with hp | hp
          · exact h2 p hp
          · rw [List.mem_singleton.1 hp]
            refine ⟨⟨_, hE⟩, ?_, rfl⟩
            show (opsAt opC (lev (y j))).length ≤ 1
            rw [opsAt_length]
            unfold lev
            split <;> omega
        · rw [csAt, if_neg hz, List.map_append, h3]; rfl
/-- What joining comes to. -/
def Joint (z : Nat → Int) (y : Nat → Bool) (j : Nat) (w : World) (e : Ending) (w' : World) : Prop :=
  ∃ v d k a, e = .returned v ∧ IsE w' w'.heap.size d k v a ∧ okV v = false ∧ a.ops.length ≤ 1 ∧ a.first = jfirst z y j ∧ a.txt = jtxt z y j ∧ a.nums = (csAt z y j).map Prod.fst ∧ Below w.heap.size w w'
theorem csAt_ne {z : Nat → Int} {y : Nat → Bool} : ∀ {j} {p : Int × List UInt8}, p ∈ csAt z y j → p.1 ≠ 0
  | j + 1, p, h => by
    rw [csAt] at h
    split at h
    · exact csAt_ne h
    · rcases List.mem_append.1 h with h | h
      · exact csAt_ne h
      · rw [List.mem_singleton.1 h]; assumption
theorem joint_of {w : World} {z : Nat → Int} {y : Nat → Bool} {j : Nat} {xs : List Value} (h : LAt w z y j xs) (hj : j ≤ 1000) (hne : (csAt z y j).length ≠ 0) {e : Ending} {w' : World} (hp : JoinPost (xs.filter live) w e w') : Joint z y j w e w' := by
  obtain ⟨es, h1, h2, h3⟩ := h.es
  obtain ⟨hB, hp⟩ := hp
  have hlen : es.length = (csAt z y j).length := by rw [← h3, List.length_map]
  have hcj := csAt_length z y j
  rw [h1] at hp
  rcases hp with ⟨h4, _⟩ | ⟨x, h4, he⟩ | ⟨h4, b, r, c, he, hb1, hb2, hr1, hr2, hc1, hc2⟩
  · exact absurd (by rw [← hlen]; simpa using congrArg List.length h4) hne
  · match es, h2, h3, h4 with
    | [p], h2, h3, h4 =>
      simp only [List.map_cons, List.map_nil, List.cons.injEq, and_true] at h4
      obtain ⟨⟨k, hk⟩, ho, hn⟩ := h2 p (List.mem_singleton.2 rfl)
      simp only [List.map_cons, List.map_nil] at h3
      subst h4
      have hz : p.2.first ≠ 0 := csAt_ne (z := z) (y := y) (j := j) (p := (p.2.first, p.2.txt)) (by rw [← h3]; exact List.mem_singleton.2 rfl)
      refine ⟨p.1, 0, k, p.2, he, (hk.under hB).more hB.size, hk.okV_false hz, ho, ?_, ?_, ?_, hB⟩
      · rw [jfirst, ← h3]; rfl
      · rw [jtxt, ← h3]; exact (Lib.join_one _ _).symm
      · rw [← h3, hn]; rfl
  · rw [List.length_map] at h4 hb2 hc1
    have hat : ∀ i, ∃ q : Nat × Value × EA, i < es.length → es[i]? = some (q.2.1, q.2.2) ∧ IsE w w.heap.size 0 q.1 q.2.1 q.2.2 ∧ q.2.2.ops.length ≤ 1 ∧ q.2.2.nums = [q.2.2.first] := by
      intro i
      by_cases hi : i < es.length
      · obtain ⟨⟨k, hk⟩, ho, hn⟩ := h2 es[i] (List.getElem_mem hi)
        exact ⟨(k, es[i].1, es[i].2), fun _ => ⟨List.getElem?_eq_getElem hi, hk, ho, hn⟩⟩
      · exact ⟨(0, .nilIface, ⟨0, [], [], []⟩), fun h => absurd h hi⟩
    obtain ⟨q, hq⟩ := Classical.axiomOfChoice hat
    have hJ := IsE.joined (W := w') (B := w'.heap.size) 0 b r 0 es.length c (fun i => (q i).1) (fun i => (q i).2.1) (fun i => (q i).2.2) (row_lt hb2) hr1 hb2 (by omega) hc1 (by omega)
      (fun i hi => hc2 i _ (by rw [List.getElem?_map, (hq i hi).1]; rfl)) (fun i hi => ((hq i hi).2.1.under hB).more hB.size)
    have hmap : ∀ {β : Type} (f : EA → β), (List.range es.length).map (fun i => f (q i).2.2) = es.map (fun p => f p.2) := by
      intro β f
      apply List.ext_getElem?
      intro i
      rw [List.getElem?_map, List.getElem?_map]
      by_cases hi : i < es.length
      · rw [List.getElem?_range hi, (hq i hi).1]; rfl
      · rw [List.getElem?_eq_none (by simp; omega), List.getElem?_eq_none (by omega)]; rfl
    have hfst : (csAt z y j).map Prod.fst = es.map (fun p => p.2.first) := by rw [← h3, List.map_map]; rfl
    have hsnd : (csAt z y j).map Prod.snd = es.map (fun p => p.2.txt) := by rw [← h3, List.map_map]; rfl
    refine ⟨_, 1, 0, _, he, hJ, rfl, (hq 0 (by omega)).2.2.1, ?_, ?_, ?_, hB⟩
    · show (q 0).2.2.first = _
      rw [jfirst, ← h3]
      cases es with
      | nil => simp at h4
      | cons p r =>
        have := (hq 0 (by simp)).1
        simp only [List.getElem?_cons_zero, Option.some.injEq] at this
        rw [this]; rfl
    · show Lib.join ((List.range es.length).map fun i => (q i).2.2.txt) [10] = _
      rw [jtxt, hsnd, hmap (fun a => a.txt)]
    · show ((List.range es.length).flatMap fun i => (q i).2.2.nums) = _
      rw [hfst, ← hmap (fun a => a.first), List.flatMap]
      have : (List.range es.length).map (fun i => (q i).2.2.nums) = (List.range es.length).map (fun i => [(q i).2.2.first]) := List.map_congr_left fun i hi => (hq i (List.mem_range.1 hi)).2.2.2
      rw [this]
      induction List.range es.length with
      | nil => rfl
      | cons a r ih => simp [ih]
end Go.Proofs.YthamnnhpagllcaaDoor
