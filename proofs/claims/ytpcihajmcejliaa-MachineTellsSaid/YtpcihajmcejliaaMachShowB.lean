/- The walks of what compares rows of numbers, and runs. The walk of shown: are two runs' ends the same? -/
import Derived.Test.YtpcihajmcejliaaMachGo
import Derived.Deep.DeepCutAuto
namespace Go.Proofs.Ytpcihajmcejliaa
open Go.RowKit
open mst
namespace mst
theorem eq_cells {l l' : List Int} (hn : l.length = l'.length) (h : ∀ j, j < l.length → l.getD j 0 = l'.getD j 0) : l = l' := by
  refine List.ext_getElem hn fun k h1 h2 => ?_
  have := h k h1
  simpa [List.getD_eq_getElem?_getD, List.getElem?_eq_getElem h1, List.getElem?_eq_getElem h2] using this
theorem begins_iff {l l' : List Int} : l' <+: l ↔ l'.length ≤ l.length ∧ ∀ j, j < l'.length → l.getD j 0 = l'.getD j 0 := by
  constructor
  · rintro ⟨t, rfl⟩
    refine ⟨by simp, fun j hj => ?_⟩
    simp [List.getD_eq_getElem?_getD, List.getElem?_append_left hj]
  · rintro ⟨hl, h⟩
    rw [List.prefix_iff_eq_take]
    refine List.ext_getElem (by simp; omega) fun k h1 h2 => ?_
    have hk : k < l.length := by omega
    have := h k h1
    simpa [List.getD_eq_getElem?_getD, List.getElem?_eq_getElem h1, List.getElem?_eq_getElem hk] using this.symm
def BoolPost (R : Bool) (w : World) (e : Ending) (w' : World) : Prop := e = .returned (.bool R) ∧ Below w.heap.size w w'
set_option maxRecDepth 100000 in
set_option maxHeartbeats 4000000 in
theorem numbers_some {g o c g' o' c' n : Nat} (l l' : List Int) (w : World) (hn : n ≤ 9223372036854775807) (h : ∀ k, k < n → w.cell? ⟨g, o + k, none⟩ = some (.int .i64 (l.getD k 0))) (h' : ∀ k, k < n → w.cell? ⟨g', o' + k, none⟩ = some (.int .i64 (l'.getD k 0))) (hg : g < w.heap.size) (hg' : g' < w.heap.size)
    (R : Bool) (hT : (∀ j, j < n → l.getD j 0 = l'.getD j 0) → R = true) (hF : ∀ j, j < n → l.getD j 0 ≠ l'.getD j 0 → R = false) :
    Calls Try.prog 17 #[.slice (some ⟨g, o, none⟩) n c, .slice (some ⟨g', o', none⟩) n c'] w (BoolPost R w) := by
  have H := Lib.hid h
  have H' := Lib.hid h'
  have HT := Lib.hid hT
  have HF := Lib.hid hF
  clear h h' hT hF
  go_enter Try.func17, Try.ntmps17
  go_wp2_with fail
  go_loopw [5] (fun i wr => ∃ k : Nat, k ≤ n ∧ i = .int .i64 k ∧ Below w.heap.size w wr ∧ Hid (∀ j, j < k → l.getD j 0 = l'.getD j 0)) (fun i _ => n - (intOf i).toNat)
  case atStart => exact ⟨0, by omega, rfl, Below.refl _ _, fun j hj => absurd hj (by omega)⟩
  case round =>
    obtain ⟨k, hk, rfl, hB, hrel⟩ := hrel
    by_cases hlt : k < n
    · have c1 := (hB.cell (p := ⟨g, o + k, none⟩) hg).trans (H.out k hlt)
      have c2 := (hB.cell (p := ⟨g', o' + k, none⟩) hg').trans (H'.out k hlt)
      have hlti : (k : Int) < (n : Int) := by omega
      have hF := Lib.hid (HF.out k hlt)
      obtain ⟨x, hx⟩ : ∃ x, l.getD k 0 = x := ⟨_, rfl⟩
      obtain ⟨y, hy⟩ : ∃ y, l'.getD k 0 = y := ⟨_, rfl⟩
      rw [hx] at c1 hF
      rw [hy] at c2 hF
      have HX := Lib.hid hx
      have HY := Lib.hid hy
      clear hx hy
      by_cases hxy : x = y
      · subst hxy
        have hb : (x != x) = false := by simp
        go_upto_region 6 with (fail)
        go_quiet (fail)
        go_wp2_with fail
        go_roundw
        case rel =>
          refine ⟨k + 1, by omega, by go_num, below_drewN hB _, fun j hj => ?_⟩
          by_cases e : j = k
          · subst e; rw [HX.out, HY.out]
          · exact hrel.out j (by omega)
        case measure => simp [intOf]; omega
      · have hb : (x != y) = true := by simp [hxy]
        have HXY := Lib.hid hxy
        clear hxy
        go_upto_region 6 with (fail)
        go_quiet (fail)
        go_wp2_with fail
        go_ret
        exact ⟨ret_bool (hF.out HXY.out).symm, below_drewN hB _⟩
    · obtain rfl : k = n := by omega
      go_wp2_with fail
      go_ret
      exact ⟨ret_bool (HT.out hrel.out).symm, hB⟩
set_option maxRecDepth 100000 in
set_option maxHeartbeats 4000000 in
theorem numbers_short (a b : Option Addr) (n m c c' : Nat) (w : World) (R : Bool) (hn : n = m → n = 0 ∧ R = true) (hm : n ≠ m → R = false) :
    Calls Try.prog 17 #[.slice a n c, .slice b m c'] w (BoolPost R w) := by
  by_cases e : n = m
  · obtain ⟨rfl, rfl⟩ := hn e
    subst e
    clear hn hm
    go_enter Try.func17, Try.ntmps17
    go_wp2_with fail
    go_loopw [5] (fun i wr => i = .int .i64 0 ∧ wr = w) (fun i _ => 0)
    case atStart => exact ⟨rfl, rfl⟩
    case round =>
      obtain ⟨rfl, rfl⟩ := hrel
      go_wp2_with fail
      go_ret
      exact ⟨rfl, Below.refl _ _⟩
  · obtain rfl := hm e
    have hb : ((n : Int) != (m : Int)) = true := by simp; omega
    clear hn hm
    go_enter Try.func17, Try.ntmps17
    go_wp2_with fail
    all_goals go_ret
    all_goals exact ⟨rfl, Below.refl _ _⟩
theorem numbers_any (v v' : Value) (l l' : List Int) (w : World) (B : Nat) (hB : B ≤ w.heap.size) (h : InB w B v l) (h' : InB w B v' l') (hl : l.length ≤ 9223372036854775807) :
    Calls Try.prog 17 #[v, v'] w (BoolPost (decide (l = l')) w) := by
  by_cases hz : 0 < l.length ∧ l.length = l'.length
  · obtain ⟨g, o, c, rfl, hg, hc⟩ := h.some hz.1
    obtain ⟨g', o', c', rfl, hg', hc'⟩ := h'.some (by omega)
    rw [← hz.2] at hc' ⊢
    exact numbers_some l l' w hl hc hc' (by omega) (by omega) _ (fun h => decide_eq_true (eq_cells hz.2 h)) (fun j hj hne => decide_eq_false (fun e => hne (by rw [e])))
  · obtain ⟨A, c, rfl⟩ := h.len
    obtain ⟨A', c', rfl⟩ := h'.len
    refine numbers_short A A' _ _ c c' w _ (fun e => ?_) (fun e => decide_eq_false (fun h => e (by rw [h])))
    have h0 : l.length = 0 := by omega
    have h1 : l'.length = 0 := by omega
    exact ⟨h0, decide_eq_true ((List.eq_nil_of_length_eq_zero h0).trans (List.eq_nil_of_length_eq_zero h1).symm)⟩
set_option maxRecDepth 100000 in
set_option maxHeartbeats 4000000 in
theorem begins_some {g o c g' o' c' n m : Nat} (l l' : List Int) (w : World) (hn : n ≤ 9223372036854775807) (hm : m ≤ n) (h : ∀ k, k < n → w.cell? ⟨g, o + k, none⟩ = some (.int .i64 (l.getD k 0))) (h' : ∀ k, k < m → w.cell? ⟨g', o' + k, none⟩ = some (.int .i64 (l'.getD k 0))) (hg : g < w.heap.size) (hg' : g' < w.heap.size)
    (R : Bool) (hT : (∀ j, j < m → l.getD j 0 = l'.getD j 0) → R = true) (hF : ∀ j, j < m → l.getD j 0 ≠ l'.getD j 0 → R = false) :
    Calls Try.prog 18 #[.slice (some ⟨g, o, none⟩) n c, .slice (some ⟨g', o', none⟩) m c'] w (BoolPost R w) := by
  have H := Lib.hid h
  have H' := Lib.hid h'
  have HT := Lib.hid hT
  have HF := Lib.hid hF
  clear h h' hT hF
  have hmi : ¬ (n : Int) < (m : Int) := by omega
  go_enter Try.func18, Try.ntmps18
  go_wp2_with fail
  go_loopw [5] (fun i wr => ∃ k : Nat, k ≤ m ∧ i = .int .i64 k ∧ Below w.heap.size w wr ∧ Hid (∀ j, j < k → l.getD j 0 = l'.getD j 0)) (fun i _ => m - (intOf i).toNat)
  case atStart => exact ⟨0, by omega, rfl, Below.refl _ _, fun j hj => absurd hj (by omega)⟩
  case round =>
    obtain ⟨k, hk, rfl, hB, hrel⟩ := hrel
    by_cases hlt : k < m
    · have c1 := (hB.cell (p := ⟨g, o + k, none⟩) hg).trans (H.out k (by omega))
      have c2 := (hB.cell (p := ⟨g', o' + k, none⟩) hg').trans (H'.out k hlt)
      have hlti : (k : Int) < (m : Int) := by omega
      have hlti2 : (k : Int) < (n : Int) := by omega
      have hF := Lib.hid (HF.out k hlt)
      obtain ⟨x, hx⟩ : ∃ x, l.getD k 0 = x := ⟨_, rfl⟩
      obtain ⟨y, hy⟩ : ∃ y, l'.getD k 0 = y := ⟨_, rfl⟩
      rw [hx] at c1 hF
      rw [hy] at c2 hF
      have HX := Lib.hid hx
      have HY := Lib.hid hy
      clear hx hy
      by_cases hxy : x = y
      · subst hxy
        have hb : (x != x) = false := by simp
        go_upto_region 6 with (fail)
        go_quiet (fail)
        go_wp2_with fail
        go_roundw
        case rel =>
          refine ⟨k + 1, by omega, by go_num, below_drewN hB _, fun j hj => ?_⟩
          by_cases e : j = k
          · subst e; rw [HX.out, HY.out]
          · exact hrel.out j (by omega)
        case measure => simp [intOf]; omega
      · have hb : (x != y) = true := by simp [hxy]
        have HXY := Lib.hid hxy
        clear hxy
        go_upto_region 6 with (fail)
        go_quiet (fail)
        go_wp2_with fail
        go_ret
        exact ⟨ret_bool (hF.out HXY.out).symm, below_drewN hB _⟩
    · obtain rfl : k = m := by omega
      go_wp2_with fail
      go_ret
      exact ⟨ret_bool (HT.out hrel.out).symm, hB⟩
set_option maxRecDepth 100000 in
set_option maxHeartbeats 4000000 in
theorem begins_short (a b : Option Addr) (n m c c' : Nat) (w : World) (R : Bool) (hn : m ≤ n → m = 0 ∧ R = true) (hm : n < m → R = false) :
    Calls Try.prog 18 #[.slice a n c, .slice b m c'] w (BoolPost R w) := by
  by_cases e : n < m
  · obtain rfl := hm e
    have hb : (n : Int) < (m : Int) := by omega
    clear hn hm
    go_enter Try.func18, Try.ntmps18
    go_wp2_with fail
    go_ret
    exact ⟨rfl, Below.refl _ _⟩
  · obtain ⟨rfl, rfl⟩ := hn (by omega)
    have hb : ¬ (n : Int) < 0 := by omega
    clear hn hm e
    go_enter Try.func18, Try.ntmps18
    go_wp2_with fail
    go_loopw [5] (fun i wr => i = .int .i64 0 ∧ wr = w) (fun i _ => 0)
    case atStart => exact ⟨rfl, rfl⟩
    case round =>
      obtain ⟨rfl, rfl⟩ := hrel
      go_wp2_with fail
      go_ret
      exact ⟨rfl, Below.refl _ _⟩
theorem begins_any (v v' : Value) (l l' : List Int) (w : World) (B : Nat) (hB : B ≤ w.heap.size) (h : InB w B v l) (h' : InB w B v' l') (hl : l.length ≤ 9223372036854775807) :
    Calls Try.prog 18 #[v, v'] w (BoolPost (decide (l' <+: l)) w) := by
  by_cases hz : 0 < l'.length ∧ l'.length ≤ l.length
  · obtain ⟨g, o, c, rfl, hg, hc⟩ := h.some (by omega)
    obtain ⟨g', o', c', rfl, hg', hc'⟩ := h'.some hz.1
    exact begins_some l l' w hl hz.2 hc hc' (by omega) (by omega) _ (fun h => decide_eq_true (begins_iff.2 ⟨hz.2, h⟩)) (fun j hj hne => decide_eq_false (fun e => hne ((begins_iff.1 e).2 j hj)))
  · obtain ⟨A, c, rfl⟩ := h.len
    obtain ⟨A', c', rfl⟩ := h'.len
    refine begins_short A A' _ _ c c' w _ (fun e => ?_) (fun e => decide_eq_false (fun h => by have := (begins_iff.1 h).1; omega))
    have h1 : l'.length = 0 := by omega
    exact ⟨h1, decide_eq_true (by rw [List.eq_nil_of_length_eq_zero h1]; exact List.nil_prefix)⟩
set_option maxRecDepth 100000 in
set_option maxHeartbeats 4000000 in
theorem same_any (v v' : Value) (l l' : List Int) (w : World) (B : Nat) (hB : B ≤ w.heap.size) (h : InB w B v l) (h' : InB w B v' l') (hl : l.length ≤ 9223372036854775807) :
    Calls Try.prog 19 #[v, v'] w (BoolPost (decide (l = l')) w) := by
  have HB := Lib.hid (begins_any v v' l l' w B hB h h' hl)
  obtain ⟨A, c, rfl⟩ := h.len
  obtain ⟨A', c', rfl⟩ := h'.len
  clear h h'
  by_cases hz : l.length = l'.length
  · have e : decide (l' <+: l) = decide (l = l') := by
      refine decide_eq_decide.2 ⟨fun h => (h.eq_of_length hz.symm).symm, fun h => by rw [h]; exact List.prefix_refl _⟩
    rw [e] at HB
    have hb : ((l.length : Int) == (l'.length : Int)) = true := by simp; omega
    have HE := Lib.hid hz
    generalize l.length = n at *
    generalize l'.length = m at *
    obtain rfl := hz
    clear e
    go_enter Try.func19, Try.ntmps19
    go_wp2_with (go_at_call 18; refine HB.out.mono ?_; rintro e w' ⟨rfl, hB2⟩)
    go_ret
    exact ⟨rfl, hB2⟩
  · have hb : ((l.length : Int) == (l'.length : Int)) = false := by simp; omega
    have e : decide (l = l') = false := decide_eq_false (fun h => hz (by rw [h]))
    rw [e]
    generalize l.length = n at *
    generalize l'.length = m at *
    clear e HB
    go_enter Try.func19, Try.ntmps19
    go_wp2_with (fail)
    go_ret
    exact ⟨rfl, Below.refl _ _⟩
end mst
end Go.Proofs.Ytpcihajmcejliaa
namespace Go.Proofs.Ytpcihajmcejliaa
open Go.RowKit
open mst
/-- how a run ended, as a value -/
structure ShownAt (w : World) (B : Nat) (x : Value) (e st : Int) (u0 u1 : Int) (o0 o1 : List Int) : Prop where
  ex : ∃ vl vh, x = .agg #[.int .i64 e, vl, vh, .int .i64 u0, .int .i64 u1, .int .i64 st] ∧ InB w B vl o0 ∧ InB w B vh o1
namespace mst
set_option maxRecDepth 100000 in
set_option maxHeartbeats 4000000 in
theorem shown_any {x x' : Value} {e st u0 u1 e' st' u0' u1' : Int} {o0 o1 o0' o1' : List Int} (w : World) (B : Nat) (hB : B ≤ w.heap.size) (h : ShownAt w B x e st u0 u1 o0 o1) (h' : ShownAt w B x' e' st' u0' u1' o0' o1') (h0 : o0.length ≤ 9223372036854775807) (h1 : o1.length ≤ 9223372036854775807) :
    Calls Try.prog 15 #[x, x'] w (BoolPost (decide (e = e' ∧ st = st' ∧ u0 = u0' ∧ u1 = u1' ∧ o0 = o0' ∧ o1 = o1')) w) := by
  obtain ⟨vl, vh, rfl, ql, qh⟩ := h.ex
  obtain ⟨vl', vh', rfl, ql', qh'⟩ := h'.ex
  clear h h'
  have HL := Lib.hid (fun (w' : World) (hb : Below w.heap.size w w') => numbers_any vl vl' o0 o0' w' B (by have := hb.size; omega) (ql.mono (hb.mono hB) (Nat.le_refl _)) (ql'.mono (hb.mono hB) (Nat.le_refl _)) h0)
  have HH := Lib.hid (fun (w' : World) (hb : Below w.heap.size w w') => numbers_any vh vh' o1 o1' w' B (by have := hb.size; omega) (qh.mono (hb.mono hB) (Nat.le_refl _)) (qh'.mono (hb.mono hB) (Nat.le_refl _)) h1)
  generalize hR : decide (e = e' ∧ st = st' ∧ u0 = u0' ∧ u1 = u1' ∧ o0 = o0' ∧ o1 = o1') = R
  have HR := Lib.hid hR
  clear hR
  obtain ⟨A1, c1, el⟩ := ql.len
  obtain ⟨A2, c2, eh⟩ := qh.len
  obtain ⟨A1', c1', el'⟩ := ql'.len
  obtain ⟨A2', c2', eh'⟩ := qh'.len
  generalize o0.length = n0 at *
  generalize o1.length = n1 at *
  generalize o0'.length = n0' at *
  generalize o1'.length = n1' at *
  subst el eh el' eh'
  clear ql qh ql' qh'
  have hb0 : Below w.heap.size w ((w.alloc (.cells #[.int .i64 e, .slice A1 n0 c1, .slice A2 n1 c2, .int .i64 u0, .int .i64 u1, .int .i64 st] 34)).alloc (.cells #[.int .i64 e', .slice A1' n0' c1', .slice A2' n1' c2', .int .i64 u0', .int .i64 u1', .int .i64 st'] 34)) := ((Below.refl _ _).alloc (Nat.le_refl _) _).alloc (by simp) _
  have HB0 := Lib.hid hb0
  have HK : Hid (((w.alloc (.cells #[.int .i64 e, .slice A1 n0 c1, .slice A2 n1 c2, .int .i64 u0, .int .i64 u1, .int .i64 st] 34)).alloc (.cells #[.int .i64 e', .slice A1' n0' c1', .slice A2' n1' c2', .int .i64 u0', .int .i64 u1', .int .i64 st'] 34)).cell? ⟨w.heap.size, 2, none⟩ = some (.slice A2 n1 c2) ∧ ((w.alloc (.cells #[.int .i64 e, .slice A1 n0 c1, .slice A2 n1 c2, .int .i64 u0, .int .i64 u1, .int .i64 st] 34)).alloc (.cells #[.int .i64 e', .slice A1' n0' c1', .slice A2' n1' c2', .int .i64 u0', .int .i64 u1', .int .i64 st'] 34)).cell? ⟨w.heap.size + 1, 2, none⟩ = some (.slice A2' n1' c2')) := by
    refine ⟨cell_al ((cell_of_row _ _ 2 _ _ _ (heap_alloc_new w (.cells #[.int .i64 e, .slice A1 n0 c1, .slice A2 n1 c2, .int .i64 u0, .int .i64 u1, .int .i64 st] 34))).trans rfl), ?_⟩
    have := (cell_of_row _ _ 2 _ _ _ (heap_alloc_new (w.alloc (.cells #[.int .i64 e, .slice A1 n0 c1, .slice A2 n1 c2, .int .i64 u0, .int .i64 u1, .int .i64 st] 34)) (.cells #[.int .i64 e', .slice A1' n0' c1', .slice A2' n1' c2', .int .i64 u0', .int .i64 u1', .int .i64 st'] 34))).trans rfl
    rwa [show (w.alloc (.cells #[.int .i64 e, .slice A1 n0 c1, .slice A2 n1 c2, .int .i64 u0, .int .i64 u1, .int .i64 st] 34)).heap.size = w.heap.size + 1 by simp] at this
  clear hb0
  by_cases e1 : e = e'
  · subst e1
    by_cases e2 : st = st'
    · subst e2
      by_cases e3 : u0 = u0'
      · subst e3
        by_cases e4 : u1 = u1'
        · subst e4
          have q1 : (e == e) = true := by simp
          have q2 : (st == st) = true := by simp
          have q3 : (u0 == u0) = true := by simp
          have q4 : (u1 == u1) = true := by simp
          by_cases e5 : o0 = o0'
          · have hd : decide (o0 = o0') = true := decide_eq_true e5
            rw [hd] at HL
            have HE := Lib.hid e5
            clear e5 hd
            have HR2 : Hid (decide (o1 = o1') = R) := by rw [← HR.out]; exact decide_eq_decide.2 ⟨fun h => ⟨rfl, rfl, rfl, rfl, HE.out, h⟩, fun h => h.2.2.2.2.2⟩
            generalize decide (o1 = o1') = D at HH HR2
            obtain rfl : D = R := HR2.out
            clear HR HR2
            go_enter Try.func15, Try.ntmps15
            go_wp2_with (first | (go_at_call 17; refine (HL.out _ HB0.out).mono ?_; rintro e w2 ⟨rfl, hB2⟩; have HB2 := Lib.hid (HB0.out.trans (hB2.mono (by simp <;> omega))); have k1 := (hB2.cell (p := ⟨w.heap.size, 2, none⟩) (by simp <;> omega)).trans HK.out.1; have k2 := (hB2.cell (p := ⟨w.heap.size + 1, 2, none⟩) (by simp <;> omega)).trans HK.out.2; clear HL HB0 hB2) | (go_at_call 17; refine (HH.out _ HB2.out).mono ?_; rintro e w3 ⟨rfl, hB3⟩; have HB3 := Lib.hid (HB2.out.trans (hB3.mono HB2.out.size)); clear HH HB2))
            go_ret
            exact ⟨rfl, HB3.out⟩
          · have hd : decide (o0 = o0') = false := decide_eq_false e5
            rw [hd] at HL
            obtain rfl : R = false := by rw [← HR.out]; exact decide_eq_false (fun h => e5 h.2.2.2.2.1)
            clear e5 hd HR
            go_enter Try.func15, Try.ntmps15
            go_wp2_with (go_at_call 17; refine (HL.out _ HB0.out).mono ?_; rintro e w2 ⟨rfl, hB2⟩; have HB2 := Lib.hid (HB0.out.trans (hB2.mono (by simp <;> omega))); clear HL HB0)
            go_ret
            exact ⟨rfl, HB2.out⟩
        · have q1 : (e == e) = true := by simp
          have q2 : (st == st) = true := by simp
          have q3 : (u0 == u0) = true := by simp
          have q4 : (u1 == u1') = false := by simp [e4]
          obtain rfl : R = false := by rw [← HR.out]; exact decide_eq_false (fun h => e4 h.2.2.2.1)
          clear e4 HR HL HH
          go_enter Try.func15, Try.ntmps15
          go_wp2_with fail
          go_ret
          exact ⟨rfl, HB0.out⟩
      · have q1 : (e == e) = true := by simp
        have q2 : (st == st) = true := by simp
        have q3 : (u0 == u0') = false := by simp [e3]
        obtain rfl : R = false := by rw [← HR.out]; exact decide_eq_false (fun h => e3 h.2.2.1)
        clear e3 HR HL HH
        go_enter Try.func15, Try.ntmps15
        go_wp2_with fail
        go_ret
        exact ⟨rfl, HB0.out⟩
    · have q1 : (e == e) = true := by simp
      have q2 : (st == st') = false := by simp [e2]
      obtain rfl : R = false := by rw [← HR.out]; exact decide_eq_false (fun h => e2 h.2.1)
      clear e2 HR HL HH
      go_enter Try.func15, Try.ntmps15
      go_wp2_with fail
      go_ret
      exact ⟨rfl, HB0.out⟩
  · have q1 : (e == e') = false := by simp [e1]
    obtain rfl : R = false := by rw [← HR.out]; exact decide_eq_false (fun h => e1 h.1)
    clear e1 HR HL HH
    go_enter Try.func15, Try.ntmps15
    go_wp2_with fail
    go_ret
    exact ⟨rfl, HB0.out⟩
end mst
end Go.Proofs.Ytpcihajmcejliaa
