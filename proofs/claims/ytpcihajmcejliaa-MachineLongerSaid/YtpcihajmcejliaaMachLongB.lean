/- The walk of the law MachineLonger. The walk of the law MachineLonger where the image may be and runs. The law MachineLonger: whatever the image, the inputs and the two fuels, the call returns true. -/
import Derived.Test.YtpcihajmcejliaaMachRunQ
import Derived.Test.YtpcihajmcejliaaMachTellsB
import Derived.Test.YtpcihajmcejliaaMachLen
namespace Go.Proofs.Ytpcihajmcejliaa
open Go.RowKit
open mst
namespace mst
set_option maxRecDepth 100000 in
set_option maxHeartbeats 8000000 in
theorem longer_out1 (v : Value) (code : List Ins) (lo hi : Int) (v0 v1 : Value) (few more : Int) (w : World) (hv : CodeAt w v code) (A0 A1 : Option Addr) (n0 n1 c0 c1 : Nat) (e0 : v0 = .slice A0 n0 c0) (e1 : v1 = .slice A1 n1 c1) (h : few < 0) :
    Calls Try.prog 7 #[.agg #[v, .int .i64 lo, .int .i64 hi], v0, v1, .int .i64 few, .int .i64 more] w fun e w' => e = .returned (.bool true) ∧ Below w.heap.size w w' := by
  have HV := Lib.hid hv
  obtain ⟨A, n, c, rfl⟩ := hv.isSlice
  clear hv
  subst e0
  subst e1
  have HB0 := Lib.hid ((Below.refl w.heap.size w).alloc (Nat.le_refl _) (.cells #[.slice A n c, .int .i64 lo, .int .i64 hi] 30))
  go_enter Try.func7, Try.ntmps7
  go_wp2_with fail
  go_ret
  exact ⟨rfl, HB0.out⟩
set_option maxRecDepth 100000 in
set_option maxHeartbeats 8000000 in
theorem longer_out2 (v : Value) (code : List Ins) (lo hi : Int) (v0 v1 : Value) (few more : Int) (w : World) (hv : CodeAt w v code) (A0 A1 : Option Addr) (n0 n1 c0 c1 : Nat) (e0 : v0 = .slice A0 n0 c0) (e1 : v1 = .slice A1 n1 c1) (h0 : ¬ few < 0) (h : more < few) :
    Calls Try.prog 7 #[.agg #[v, .int .i64 lo, .int .i64 hi], v0, v1, .int .i64 few, .int .i64 more] w fun e w' => e = .returned (.bool true) ∧ Below w.heap.size w w' := by
  have HV := Lib.hid hv
  obtain ⟨A, n, c, rfl⟩ := hv.isSlice
  clear hv
  subst e0
  subst e1
  have HB0 := Lib.hid ((Below.refl w.heap.size w).alloc (Nat.le_refl _) (.cells #[.slice A n c, .int .i64 lo, .int .i64 hi] 30))
  go_enter Try.func7, Try.ntmps7
  go_wp2_with fail
  go_ret
  exact ⟨rfl, HB0.out⟩
set_option maxRecDepth 100000 in
set_option maxHeartbeats 8000000 in
theorem longer_out3 (v : Value) (code : List Ins) (lo hi : Int) (v0 v1 : Value) (few more : Int) (w : World) (hv : CodeAt w v code) (A0 A1 : Option Addr) (n0 n1 c0 c1 : Nat) (e0 : v0 = .slice A0 n0 c0) (e1 : v1 = .slice A1 n1 c1) (h0 : ¬ few < 0) (h1 : ¬ more < few) (h : 5000 < more) :
    Calls Try.prog 7 #[.agg #[v, .int .i64 lo, .int .i64 hi], v0, v1, .int .i64 few, .int .i64 more] w fun e w' => e = .returned (.bool true) ∧ Below w.heap.size w w' := by
  have HV := Lib.hid hv
  obtain ⟨A, n, c, rfl⟩ := hv.isSlice
  clear hv
  subst e0
  subst e1
  have HB0 := Lib.hid ((Below.refl w.heap.size w).alloc (Nat.le_refl _) (.cells #[.slice A n c, .int .i64 lo, .int .i64 hi] 30))
  go_enter Try.func7, Try.ntmps7
  go_wp2_with fail
  go_ret
  exact ⟨rfl, HB0.out⟩
set_option maxRecDepth 100000 in
set_option maxHeartbeats 8000000 in
theorem longer_form (v : Value) (code : List Ins) (lo hi : Int) (v0 v1 : Value) (few more : Int) (w : World) (hv : CodeAt w v code) (A0 A1 : Option Addr) (n0 n1 c0 c1 : Nat) (e0 : v0 = .slice A0 n0 c0) (e1 : v1 = .slice A1 n1 c1) (hmay : mayB code lo hi = false) (hf0 : 0 ≤ few) (hf1 : few ≤ more) (hf2 : more ≤ 5000)  :
    Calls Try.prog 7 #[.agg #[v, .int .i64 lo, .int .i64 hi], v0, v1, .int .i64 few, .int .i64 more] w fun e w' => e = .returned (.bool true) ∧ Below w.heap.size w w' := by
  have HV := Lib.hid hv
  obtain ⟨A, n, c, rfl⟩ := hv.isSlice
  clear hv
  have g0 : ¬ few < 0 := by omega
  have g1 : ¬ more < few := by omega
  have g2 : ¬ 5000 < more := by omega
  have HRUN1 := Lib.hid (fun w' (hb : Below w.heap.size w w') => run_form _ code lo hi v0 v1 few w' (HV.out.below hb (Nat.le_refl _)) hmay)
  have HRUN2 := Lib.hid (fun w' (hb : Below w.heap.size w w') => run_form _ code lo hi v0 v1 more w' (HV.out.below hb (Nat.le_refl _)) hmay)
  unfold zeroShown at HRUN1 HRUN2
  clear hmay
  subst e0
  subst e1
  have HB0 := Lib.hid ((Below.refl w.heap.size w).alloc (Nat.le_refl _) (.cells #[.slice A n c, .int .i64 lo, .int .i64 hi] 30))
  go_enter Try.func7, Try.ntmps7
  go_wp2_with (first | (go_at_call 14; refine (HRUN1.out _ HB0.out).mono ?_; rintro e w1 ⟨rfl, hb1⟩; have hk1 := box_head hb1; have hb1a : Below w1.heap.size w1 (w1.alloc (.cells #[.int .i64 0, .slice none 0 0, .slice none 0 0, .int .i64 0, .int .i64 0, .int .i64 0] 34)) := (Below.refl _ _).alloc (Nat.le_refl _) _; have HB1 := Lib.hid (box_next hk1 hb1a); have hKc1 := HB1.out.1.cell; have hKl1 := hk1.2.1; clear hb1 hk1 hb1a HRUN1) | (go_at_call 14; refine (HRUN2.out _ HB1.out.2.2).mono ?_; rintro e w2 ⟨rfl, hb2⟩; have HB2 := Lib.hid (box_next HB1.out hb2); clear hb2 HRUN2))
  go_ret
  exact ⟨rfl, HB2.out.2.2.trans (((Below.refl _ _).alloc (Nat.le_refl _) _).mono (Nat.le_of_lt HB2.out.2.1))⟩
set_option maxRecDepth 100000 in
set_option maxHeartbeats 8000000 in
theorem longer_size1 (v : Value) (code : List Ins) (lo hi : Int) (v0 v1 : Value) (few more : Int) (w : World) (hv : CodeAt w v code) (A0 A1 : Option Addr) (n0 n1 c0 c1 : Nat) (e0 : v0 = .slice A0 n0 c0) (e1 : v1 = .slice A1 n1 c1) (hmay : mayB code lo hi = true) (hf0 : 0 ≤ few) (hf1 : few ≤ more) (hf2 : more ≤ 5000) (hn : 1000 < n0) :
    Calls Try.prog 7 #[.agg #[v, .int .i64 lo, .int .i64 hi], v0, v1, .int .i64 few, .int .i64 more] w fun e w' => e = .returned (.bool true) ∧ Below w.heap.size w w' := by
  have HV := Lib.hid hv
  obtain ⟨A, n, c, rfl⟩ := hv.isSlice
  clear hv
  have g0 : ¬ few < 0 := by omega
  have g1 : ¬ more < few := by omega
  have g2 : ¬ 5000 < more := by omega
  have HRUN1 := Lib.hid (fun w' (hb : Below w.heap.size w w') => run_size1 _ code lo hi v0 v1 few w' (HV.out.below hb (Nat.le_refl _)) hmay (by omega) (by omega) A0 A1 n0 n1 c0 c1 e0 e1 hn)
  have HRUN2 := Lib.hid (fun w' (hb : Below w.heap.size w w') => run_size1 _ code lo hi v0 v1 more w' (HV.out.below hb (Nat.le_refl _)) hmay (by omega) (by omega) A0 A1 n0 n1 c0 c1 e0 e1 hn)
  unfold zeroShown at HRUN1 HRUN2
  clear hmay
  subst e0
  subst e1
  have HB0 := Lib.hid ((Below.refl w.heap.size w).alloc (Nat.le_refl _) (.cells #[.slice A n c, .int .i64 lo, .int .i64 hi] 30))
  go_enter Try.func7, Try.ntmps7
  go_wp2_with (first | (go_at_call 14; refine (HRUN1.out _ HB0.out).mono ?_; rintro e w1 ⟨rfl, hb1⟩; have hk1 := box_head hb1; have hb1a : Below w1.heap.size w1 (w1.alloc (.cells #[.int .i64 0, .slice none 0 0, .slice none 0 0, .int .i64 0, .int .i64 0, .int .i64 0] 34)) := (Below.refl _ _).alloc (Nat.le_refl _) _; have HB1 := Lib.hid (box_next hk1 hb1a); have hKc1 := HB1.out.1.cell; have hKl1 := hk1.2.1; clear hb1 hk1 hb1a HRUN1) | (go_at_call 14; refine (HRUN2.out _ HB1.out.2.2).mono ?_; rintro e w2 ⟨rfl, hb2⟩; have HB2 := Lib.hid (box_next HB1.out hb2); clear hb2 HRUN2))
  go_ret
  exact ⟨rfl, HB2.out.2.2.trans (((Below.refl _ _).alloc (Nat.le_refl _) _).mono (Nat.le_of_lt HB2.out.2.1))⟩
set_option maxRecDepth 100000 in
set_option maxHeartbeats 8000000 in
theorem longer_size2 (v : Value) (code : List Ins) (lo hi : Int) (v0 v1 : Value) (few more : Int) (w : World) (hv : CodeAt w v code) (A0 A1 : Option Addr) (n0 n1 c0 c1 : Nat) (e0 : v0 = .slice A0 n0 c0) (e1 : v1 = .slice A1 n1 c1) (hmay : mayB code lo hi = true) (hf0 : 0 ≤ few) (hf1 : few ≤ more) (hf2 : more ≤ 5000) (hn : ¬ 1000 < n0) (hm : 1000 < n1) :
    Calls Try.prog 7 #[.agg #[v, .int .i64 lo, .int .i64 hi], v0, v1, .int .i64 few, .int .i64 more] w fun e w' => e = .returned (.bool true) ∧ Below w.heap.size w w' := by
  have HV := Lib.hid hv
  obtain ⟨A, n, c, rfl⟩ := hv.isSlice
  clear hv
  have g0 : ¬ few < 0 := by omega
  have g1 : ¬ more < few := by omega
  have g2 : ¬ 5000 < more := by omega
  have HRUN1 := Lib.hid (fun w' (hb : Below w.heap.size w w') => run_size2 _ code lo hi v0 v1 few w' (HV.out.below hb (Nat.le_refl _)) hmay (by omega) (by omega) A0 A1 n0 n1 c0 c1 e0 e1 hn hm)
  have HRUN2 := Lib.hid (fun w' (hb : Below w.heap.size w w') => run_size2 _ code lo hi v0 v1 more w' (HV.out.below hb (Nat.le_refl _)) hmay (by omega) (by omega) A0 A1 n0 n1 c0 c1 e0 e1 hn hm)
  unfold zeroShown at HRUN1 HRUN2
  clear hmay
  subst e0
  subst e1
  have HB0 := Lib.hid ((Below.refl w.heap.size w).alloc (Nat.le_refl _) (.cells #[.slice A n c, .int .i64 lo, .int .i64 hi] 30))
  go_enter Try.func7, Try.ntmps7
  go_wp2_with (first | (go_at_call 14; refine (HRUN1.out _ HB0.out).mono ?_; rintro e w1 ⟨rfl, hb1⟩; have hk1 := box_head hb1; have hb1a : Below w1.heap.size w1 (w1.alloc (.cells #[.int .i64 0, .slice none 0 0, .slice none 0 0, .int .i64 0, .int .i64 0, .int .i64 0] 34)) := (Below.refl _ _).alloc (Nat.le_refl _) _; have HB1 := Lib.hid (box_next hk1 hb1a); have hKc1 := HB1.out.1.cell; have hKl1 := hk1.2.1; clear hb1 hk1 hb1a HRUN1) | (go_at_call 14; refine (HRUN2.out _ HB1.out.2.2).mono ?_; rintro e w2 ⟨rfl, hb2⟩; have HB2 := Lib.hid (box_next HB1.out hb2); clear hb2 HRUN2))
  go_ret
  exact ⟨rfl, HB2.out.2.2.trans (((Below.refl _ _).alloc (Nat.le_refl _) _).mono (Nat.le_of_lt HB2.out.2.1))⟩
end mst
end Go.Proofs.Ytpcihajmcejliaa
namespace Go.Proofs.Ytpcihajmcejliaa
open Go.RowKit
open mst
namespace mst
set_option maxRecDepth 100000 in
set_option maxHeartbeats 16000000 in
theorem longer_fuel (b off cap : Nat) (code : List Ins) (lo hi : Nat) (v0 v1 : Value) (i0 i1 : List Int) (few more : Nat) (w : World) (hv : Orders w b off code) (hb : b < w.heap.size) (hmay : mayB code lo hi = true) (hok : ∀ i ∈ code, okI i.n) (hfm : few ≤ more) (hf : more ≤ 5000) (q0 : InB w w.heap.size v0 i0) (q1 : InB w w.heap.size v1 i1) (k0 : ∀ x ∈ i0, okI x) (k1 : ∀ x ∈ i1, okI x) (hl0 : i0.length ≤ 1000) (hl1 : i1.length ≤ 1000) (hbig : code.length ≤ 9223372036854775807) (hend : (runF code i0 i1 few (zeroM lo hi)).1 = 0) :
    Calls Try.prog 7 #[.agg #[.slice (some ⟨b, off, none⟩) code.length cap, .int .i64 lo, .int .i64 hi], v0, v1, .int .i64 few, .int .i64 more] w fun e w' => e = .returned (.bool true) ∧ Below w.heap.size w w' := by
  have HRUN1 := Lib.hid (fun w' (hb2 : Below w.heap.size w w') => run_ok b off cap code lo hi v0 v1 i0 i1 few w' (hv.below hb2 hb) (Nat.lt_of_lt_of_le hb hb2.size) hmay hok (by omega) (q0.mono hb2 hb2.size) (q1.mono hb2 hb2.size) k0 k1 hl0 hl1 hbig)
  have HRUN2 := Lib.hid (fun w' (hb2 : Below w.heap.size w w') => run_ok b off cap code lo hi v0 v1 i0 i1 more w' (hv.below hb2 hb) (Nat.lt_of_lt_of_le hb hb2.size) hmay hok (by omega) (q0.mono hb2 hb2.size) (q1.mono hb2 hb2.size) k0 k1 hl0 hl1 hbig)
  have hla := run_len code i0 i1 few (zeroM lo hi)
  have hlb := run_len code i0 i1 more (zeroM lo hi)
  have hcode : ∀ i ∈ code, orderB i code.length = true ∧ okI i.n := fun i hi' => ⟨by
    simp only [mayB, Bool.and_eq_true, List.all_eq_true] at hmay
    exact hmay.2 i hi', hok i hi'⟩
  have hga : Good code.length (0 + few) (runF code i0 i1 few (zeroM lo hi)).2.2 := run_good code i0 i1 hcode k0 k1 few 0 _ (good_start _ _ _)
  have hgb : Good code.length (0 + more) (runF code i0 i1 more (zeroM lo hi)).2.2 := run_good code i0 i1 hcode k0 k1 more 0 _ (good_start _ _ _)
  have hmm := hmay
  simp only [mayB, Bool.and_eq_true, decide_eq_true_eq] at hmm
  have hlo : lo ≤ 20000 := by omega
  have hhi : hi ≤ 20000 := by omega
  have hla0 : (runF code i0 i1 few (zeroM lo hi)).2.2.lo.length = lo := by rw [hla.1]; simp [zeroM]
  have hla1 : (runF code i0 i1 few (zeroM lo hi)).2.2.hi.length = hi := by rw [hla.2]; simp [zeroM]
  have hlb0 : (runF code i0 i1 more (zeroM lo hi)).2.2.lo.length = lo := by rw [hlb.1]; simp [zeroM]
  have hlb1 : (runF code i0 i1 more (zeroM lo hi)).2.2.hi.length = hi := by rw [hlb.2]; simp [zeroM]
  have hall := run_all code i0 i1 few _ hend
  have hon := run_on code i0 i1 few more (zeroM lo hi) hfm
  rw [hall, hend] at HRUN1
  rw [hall] at hon
  have ho0 : (runF code i0 i1 more (zeroM lo hi)).2.2.o0.length ≤ 9223372036854775807 := by have := hgb.o0; omega
  have ho1 : (runF code i0 i1 more (zeroM lo hi)).2.2.o1.length ≤ 9223372036854775807 := by have := hgb.o1; omega
  generalize (runF code i0 i1 few (zeroM lo hi)) = Ra at *
  generalize (runF code i0 i1 more (zeroM lo hi)) = Rb at *
  have HLE := Lib.hid (And.intro ho0 ho1)
  have HLA := Lib.hid (And.intro hla0 (And.intro hla1 (And.intro hlb0 hlb1)))
  have HON := Lib.hid hon
  have hsteps : (few : Int) ≤ (Rb.2.1 : Int) := by have := hon.2.2; omega
  obtain ⟨A0, d0, hv0⟩ := q0.len
  obtain ⟨A1, d1, hv1⟩ := q1.len
  clear hv hmay hok q0 q1 k0 k1 hl0 hl1 hla hlb hcode hga hgb hmm ho0 ho1 hla0 hla1 hlb0 hlb1 hend hall hon
  generalize code.length = n at *
  generalize i0.length = m0 at *
  generalize i1.length = m1 at *
  subst hv0
  subst hv1
  have hq0 : ¬ (few : Int) < 0 := by omega
  have hq1 : ¬ (more : Int) < (few : Int) := by omega
  have hq2 : ¬ (5000 : Int) < (more : Int) := by omega
  have HB0 := Lib.hid ((Below.refl w.heap.size w).alloc (Nat.le_refl _) (.cells #[.slice (some ⟨b, off, none⟩) n cap, .int .i64 lo, .int .i64 hi] 30))
  go_enter Try.func7, Try.ntmps7
  go_upto_region 7 with (first | (go_at_call 14; refine (HRUN1.out _ HB0.out).mono ?_; rintro e w1 ⟨g1, vl1, vh1, va1, vb1, rfl, ca1, cb1, ql1, qh1, qa1, qb1, hb1⟩; obtain ⟨Al1, cl1, rfl⟩ := ql1.len; obtain ⟨Ah1, ch1, rfl⟩ := qh1.len; obtain ⟨Aa1, ka1, rfl⟩ := qa1.len; obtain ⟨Ab1, kb1, rfl⟩ := qb1.len; rw [HLA.out.1] at ca1 qa1; rw [HLA.out.2.1] at cb1 qb1; have hgl1 := World.block_lt_of_cell? w1 _ ca1; have HQ1 := Lib.hid (And.intro ql1 (And.intro qh1 (And.intro qa1 qb1))); have hk1 := box_head hb1; have hb1a : Below w1.heap.size w1 (w1.alloc (.cells #[.int .i64 0, .slice Al1 Ra.2.2.o0.length cl1, .slice Ah1 Ra.2.2.o1.length ch1, .int .i64 Ra.2.2.u0, .int .i64 Ra.2.2.u1, .int .i64 few] 34)) := (Below.refl _ _).alloc (Nat.le_refl _) _; have HB1 := Lib.hid (box_next hk1 hb1a); have hKc1 := HB1.out.1.cell; have hKl1 := hk1.2.1; have HA1 := Lib.hid hb1a; clear hb1 hk1 hb1a; clear ql1 qh1 qa1 qb1 HRUN1) | (go_at_call 14; refine (HRUN2.out _ HB1.out.2.2).mono ?_; rintro e w2 ⟨g2, vl2, vh2, va2, vb2, rfl, ca2, cb2, ql2, qh2, qa2, qb2, hb2⟩; obtain ⟨Al2, cl2, rfl⟩ := ql2.len; obtain ⟨Ah2, ch2, rfl⟩ := qh2.len; obtain ⟨Aa2, ka2, rfl⟩ := qa2.len; obtain ⟨Ab2, kb2, rfl⟩ := qb2.len; rw [HLA.out.2.2.1] at ca2 qa2; rw [HLA.out.2.2.2] at cb2 qb2; have hgl2 := World.block_lt_of_cell? w2 _ ca2; have HQ2 := Lib.hid (And.intro ql2 (And.intro qh2 (And.intro qa2 qb2))); have HB2 := Lib.hid (box_next HB1.out hb2); have HA2 := Lib.hid hb2; clear hb2; clear ql2 qh2 qa2 qb2 HRUN2))
  obtain ⟨w5, hw5⟩ : ∃ u, w2.alloc (.cells #[.int .i64 Rb.1, .slice Al2 Rb.2.2.o0.length cl2, .slice Ah2 Rb.2.2.o1.length ch2, .int .i64 Rb.2.2.u0, .int .i64 Rb.2.2.u1, .int .i64 Rb.2.1] 34) = u := ⟨_, rfl⟩
  have hk2 := Blk.made w2 #[.int .i64 Rb.1, .slice Al2 Rb.2.2.o0.length cl2, .slice Ah2 Rb.2.2.o1.length ch2, .int .i64 Rb.2.2.u0, .int .i64 Rb.2.2.u1, .int .i64 Rb.2.1] 34
  have ha2 : Below w2.heap.size w2 (w2.alloc (.cells #[.int .i64 Rb.1, .slice Al2 Rb.2.2.o0.length cl2, .slice Ah2 Rb.2.2.o1.length ch2, .int .i64 Rb.2.2.u0, .int .i64 Rb.2.2.u1, .int .i64 Rb.2.1] 34)) := (Below.refl _ _).alloc (Nat.le_refl _) _
  have hs2 : w2.heap.size < (w2.alloc (.cells #[.int .i64 Rb.1, .slice Al2 Rb.2.2.o0.length cl2, .slice Ah2 Rb.2.2.o1.length ch2, .int .i64 Rb.2.2.u0, .int .i64 Rb.2.2.u1, .int .i64 Rb.2.1] 34)).heap.size := by simp
  rw [hw5] at hk2 ha2 hs2 ⊢
  clear hw5
  have hs1 : w1.heap.size < w2.heap.size := by have := HA2.out.size; simp at this; omega
  have hk1 := Blk.ext (Blk.ext (Blk.made w1 #[.int .i64 0, .slice Al1 Ra.2.2.o0.length cl1, .slice Ah1 Ra.2.2.o1.length ch1, .int .i64 Ra.2.2.u0, .int .i64 Ra.2.2.u1, .int .i64 few] 34) (Below.toExt HA2.out)) (Below.toExt ha2)
  have HX1 := Lib.hid ((HA1.out.trans (HA2.out.mono (by simp))).trans (ha2.mono (Nat.le_of_lt hs1)))
  have HX2 := Lib.hid ha2
  try dsimp only at hgl1 hgl2
  have x0 := hk1.cell 0
  have x1 := hk1.cell 1
  have x2 := hk1.cell 2
  have x5 := hk1.cell 5
  have y0 := hk2.cell 0
  have y1 := hk2.cell 1
  have y2 := hk2.cell 2
  have y5 := hk2.cell 5
  simp only [List.getElem?_toArray, List.getElem?_cons_zero, List.getElem?_cons_succ] at x0 x1 x2 x5 y0 y1 y2 y5
  have p0 := (HX1.out.cell (p := ⟨g1, 0, none⟩) hgl1).trans ca1
  have p1 := (HX1.out.cell (p := ⟨g1, 1, none⟩) hgl1).trans cb1
  have r0 := (HX2.out.cell (p := ⟨g2, 0, none⟩) hgl2).trans ca2
  have r1 := (HX2.out.cell (p := ⟨g2, 1, none⟩) hgl2).trans cb2
  have lt1 : w1.heap.size < w5.heap.size := by omega
  have lt2 : w2.heap.size < w5.heap.size := hs2
  have lt3 : g1 < w5.heap.size := by omega
  have lt4 : g2 < w5.heap.size := by omega
  have HW := Lib.hid (show Below w.heap.size w w5 from HB2.out.2.2.trans (HX2.out.mono (Nat.le_of_lt HB2.out.2.1)))
  have QL1 := Lib.hid (HQ1.out.1.mono HX1.out (Nat.le_of_lt lt1))
  have QH1 := Lib.hid (HQ1.out.2.1.mono HX1.out (Nat.le_of_lt lt1))
  have QA1 := Lib.hid (HQ1.out.2.2.1.mono HX1.out (Nat.le_of_lt lt1))
  have QB1 := Lib.hid (HQ1.out.2.2.2.mono HX1.out (Nat.le_of_lt lt1))
  have QL2 := Lib.hid (HQ2.out.1.mono HX2.out (Nat.le_of_lt lt2))
  have QH2 := Lib.hid (HQ2.out.2.1.mono HX2.out (Nat.le_of_lt lt2))
  have QA2 := Lib.hid (HQ2.out.2.2.1.mono HX2.out (Nat.le_of_lt lt2))
  have QB2 := Lib.hid (HQ2.out.2.2.2.mono HX2.out (Nat.le_of_lt lt2))
  clear hk1 hk2 ha2 ca1 cb1 ca2 cb2 hs1 hs2 hgl1 hgl2
  refine wp_region_held_drew (S := fun w' => w'.cell? ⟨w1.heap.size, 0, none⟩ = some (.int .i64 0) ∧ w'.cell? ⟨w1.heap.size, 1, none⟩ = some (.slice Al1 Ra.2.2.o0.length cl1) ∧ w'.cell? ⟨w1.heap.size, 2, none⟩ = some (.slice Ah1 Ra.2.2.o1.length ch1) ∧ w'.cell? ⟨w1.heap.size, 5, none⟩ = some (.int .i64 few) ∧ w'.cell? ⟨w2.heap.size, 0, none⟩ = some (.int .i64 Rb.1) ∧ w'.cell? ⟨w2.heap.size, 1, none⟩ = some (.slice Al2 Rb.2.2.o0.length cl2) ∧ w'.cell? ⟨w2.heap.size, 2, none⟩ = some (.slice Ah2 Rb.2.2.o1.length ch2) ∧ w'.cell? ⟨w2.heap.size, 5, none⟩ = some (.int .i64 Rb.2.1) ∧ w'.cell? ⟨g1, 0, none⟩ = some (.slice Aa1 lo ka1) ∧ w'.cell? ⟨g1, 1, none⟩ = some (.slice Ab1 hi kb1) ∧ w'.cell? ⟨g2, 0, none⟩ = some (.slice Aa2 lo ka2) ∧ w'.cell? ⟨g2, 1, none⟩ = some (.slice Ab2 hi kb2)) mw.mixed ⟨x0, x1, x2, x5, y0, y1, y2, y5, p0, p1, r0, r1⟩ (fun hH => ?_)
  refine wpAnyH_take (i := 0) (v := ?va0) rfl (by kernel_rfl) (by kernel_rfl) (by kernel_rfl) (fun _ _ _ h => h) (Or.inl ⟨by rfl, ?ha0⟩) (by assumption) ?ra0
  case ha0 => intro w hSw; (try dsimp only at hSw); go_simp; (try with_reducible rfl)
  simp only [Act.put, List.getElem_toArray, List.getElem_cons_zero, List.setIfInBounds_toArray, List.set_cons_zero, List.set_cons_succ]
  refine wpAnyH_take (i := 1) (v := ?va1) rfl (by kernel_rfl) (by kernel_rfl) (by kernel_rfl) (fun _ _ _ h => h) (Or.inl ⟨by rfl, ?ha1⟩) (by assumption) ?ra1
  case ha1 => intro w hSw; (try dsimp only at hSw); go_simp; (try with_reducible rfl)
  simp only [Act.put, List.getElem_toArray, List.getElem_cons_zero, List.getElem_cons_succ, List.setIfInBounds_toArray, List.set_cons_zero, List.set_cons_succ]
  refine wpAnyH_take (i := 2) (v := ?va2) rfl (by kernel_rfl) (by kernel_rfl) (by kernel_rfl) (fun _ _ _ h => h) (Or.inl ⟨by rfl, ?ha2⟩) (by assumption) ?ra2
  case ha2 => intro w hSw; (try dsimp only at hSw); go_simp; (try with_reducible rfl)
  simp only [Act.put, List.getElem_toArray, List.getElem_cons_zero, List.getElem_cons_succ, List.setIfInBounds_toArray, List.set_cons_zero, List.set_cons_succ]
  refine wpAnyH_take (i := 3) (v := ?va3) rfl (by kernel_rfl) (by kernel_rfl) (by kernel_rfl) (fun _ _ _ h => h) (Or.inl ⟨by rfl, ?ha3⟩) (by assumption) ?ra3
  case ha3 => intro w hSw; (try dsimp only at hSw); go_simp; (try with_reducible rfl)
  simp only [Act.put, List.getElem_toArray, List.getElem_cons_zero, List.getElem_cons_succ, List.setIfInBounds_toArray, List.set_cons_zero, List.set_cons_succ]
  refine wpAnyH_take (i := 4) (v := ?va4) rfl (by kernel_rfl) (by kernel_rfl) (by kernel_rfl) (fun _ _ _ h => h) (Or.inl ⟨by rfl, ?ha4⟩) (by assumption) ?ra4
  case ha4 => intro w hSw; (try dsimp only at hSw); go_simp; (try with_reducible rfl)
  simp only [Act.put, List.getElem_toArray, List.getElem_cons_zero, List.getElem_cons_succ, List.setIfInBounds_toArray, List.set_cons_zero, List.set_cons_succ]
  refine wpAnyH_take (i := 5) (v := ?va5) rfl (by kernel_rfl) (by kernel_rfl) (by kernel_rfl) (fun _ _ _ h => h) (Or.inl ⟨by rfl, ?ha5⟩) (by assumption) ?ra5
  case ha5 => intro w hSw; (try dsimp only at hSw); go_simp; (try with_reducible rfl)
  simp only [Act.put, List.getElem_toArray, List.getElem_cons_zero, List.getElem_cons_succ, List.setIfInBounds_toArray, List.set_cons_zero, List.set_cons_succ]
  refine wpAnyH_take (i := 6) (v := ?va6) rfl (by kernel_rfl) (by kernel_rfl) (by kernel_rfl) (fun _ _ _ h => h) (Or.inl ⟨by rfl, ?ha6⟩) (by assumption) ?ra6
  case ha6 => intro w hSw; (try dsimp only at hSw); go_simp; (try with_reducible rfl)
  simp only [Act.put, List.getElem_toArray, List.getElem_cons_zero, List.getElem_cons_succ, List.setIfInBounds_toArray, List.set_cons_zero, List.set_cons_succ]
  refine wpAnyH_take (i := 7) (v := ?va7) rfl (by kernel_rfl) (by kernel_rfl) (by kernel_rfl) (fun _ _ _ h => h) (Or.inl ⟨by rfl, ?ha7⟩) (by assumption) ?ra7
  case ha7 => intro w hSw; (try dsimp only at hSw); go_simp; (try with_reducible rfl)
  simp only [Act.put, List.getElem_toArray, List.getElem_cons_zero, List.getElem_cons_succ, List.setIfInBounds_toArray, List.set_cons_zero, List.set_cons_succ]
  refine wpAnyH_take (i := 8) (v := ?va8) rfl (by kernel_rfl) (by kernel_rfl) (by kernel_rfl) (fun _ _ _ h => h) (Or.inl ⟨by rfl, ?ha8⟩) (by assumption) ?ra8
  case ha8 => intro w hSw; (try dsimp only at hSw); go_simp; (try with_reducible rfl)
  simp only [Act.put, List.getElem_toArray, List.getElem_cons_zero, List.getElem_cons_succ, List.setIfInBounds_toArray, List.set_cons_zero, List.set_cons_succ]
  refine wpAnyH_take (i := 9) (v := ?va9) rfl (by kernel_rfl) (by kernel_rfl) (by kernel_rfl) (fun _ _ _ h => h) (Or.inl ⟨by rfl, ?ha9⟩) (by assumption) ?ra9
  case ha9 => intro w hSw; (try dsimp only at hSw); go_simp; (try with_reducible rfl)
  simp only [Act.put, List.getElem_toArray, List.getElem_cons_zero, List.getElem_cons_succ, List.setIfInBounds_toArray, List.set_cons_zero, List.set_cons_succ]
  refine wpAnyH_take (i := 10) (v := ?va10) rfl (by kernel_rfl) (by kernel_rfl) (by kernel_rfl) (fun _ _ _ h => h) (Or.inl ⟨by rfl, ?ha10⟩) (by assumption) ?ra10
  case ha10 => intro w hSw; (try dsimp only at hSw); go_simp; (try with_reducible rfl)
  simp only [Act.put, List.getElem_toArray, List.getElem_cons_zero, List.getElem_cons_succ, List.setIfInBounds_toArray, List.set_cons_zero, List.set_cons_succ]
  refine wpAnyH_take (i := 11) (v := ?va11) rfl (by kernel_rfl) (by kernel_rfl) (by kernel_rfl) (fun _ _ _ h => h) (Or.inl ⟨by rfl, ?ha11⟩) (by assumption) ?ra11
  case ha11 => intro w hSw; (try dsimp only at hSw); go_simp; (try with_reducible rfl)
  simp only [Act.put, List.getElem_toArray, List.getElem_cons_zero, List.getElem_cons_succ, List.setIfInBounds_toArray, List.set_cons_zero, List.set_cons_succ]
  refine wpAnyH_take (i := 12) (v := ?va12) rfl (by kernel_rfl) (by kernel_rfl) (by kernel_rfl) (fun _ _ _ h => h) (Or.inl ⟨by rfl, ?ha12⟩) (by assumption) ?ra12
  case ha12 => intro w hSw; (try dsimp only at hSw); go_simp; (try with_reducible rfl)
  simp only [Act.put, List.getElem_toArray, List.getElem_cons_zero, List.getElem_cons_succ, List.setIfInBounds_toArray, List.set_cons_zero, List.set_cons_succ]
  refine wpAnyH_take (i := 13) (v := ?va13) rfl (by kernel_rfl) (by kernel_rfl) (by kernel_rfl) (fun _ _ _ h => h) (Or.inl ⟨by rfl, ?ha13⟩) (by assumption) ?ra13
  case ha13 => intro w hSw; (try dsimp only at hSw); go_simp; (try with_reducible rfl)
  simp only [Act.put, List.getElem_toArray, List.getElem_cons_zero, List.getElem_cons_succ, List.setIfInBounds_toArray, List.set_cons_zero, List.set_cons_succ]
  refine wpAnyH_take (i := 14) (v := ?va14) rfl (by kernel_rfl) (by kernel_rfl) (by kernel_rfl) (fun _ _ _ h => h) (Or.inl ⟨by rfl, ?ha14⟩) (by assumption) ?ra14
  case ha14 => intro w hSw; (try dsimp only at hSw); go_simp; (try with_reducible rfl)
  simp only [Act.put, List.getElem_toArray, List.getElem_cons_zero, List.getElem_cons_succ, List.setIfInBounds_toArray, List.set_cons_zero, List.set_cons_succ]
  refine wpAnyH_take (i := 15) (v := ?va15) rfl (by kernel_rfl) (by kernel_rfl) (by kernel_rfl) (fun _ _ _ h => h) (Or.inl ⟨by rfl, ?ha15⟩) (by assumption) ?ra15
  case ha15 => intro w hSw; (try dsimp only at hSw); go_simp; (try with_reducible rfl)
  simp only [Act.put, List.getElem_toArray, List.getElem_cons_zero, List.getElem_cons_succ, List.setIfInBounds_toArray, List.set_cons_zero, List.set_cons_succ]
  refine wpAnyH_take (i := 16) (v := ?va16) rfl (by kernel_rfl) (by kernel_rfl) (by kernel_rfl) (fun _ _ _ h => h) (Or.inl ⟨by rfl, ?ha16⟩) (by assumption) ?ra16
  case ha16 => intro w hSw; (try dsimp only at hSw); go_simp; (try with_reducible rfl)
  simp only [Act.put, List.getElem_toArray, List.getElem_cons_zero, List.getElem_cons_succ, List.setIfInBounds_toArray, List.set_cons_zero, List.set_cons_succ]
  refine wpAnyH_take (i := 17) (v := ?va17) rfl (by kernel_rfl) (by kernel_rfl) (by kernel_rfl) (fun _ _ _ h => h) (Or.inl ⟨by rfl, ?ha17⟩) (by assumption) ?ra17
  case ha17 => intro w hSw; (try dsimp only at hSw); go_simp; (try with_reducible rfl)
  simp only [Act.put, List.getElem_toArray, List.getElem_cons_zero, List.getElem_cons_succ, List.setIfInBounds_toArray, List.set_cons_zero, List.set_cons_succ]
  refine wpAnyH_take (i := 18) (v := ?va18) rfl (by kernel_rfl) (by kernel_rfl) (by kernel_rfl) (fun _ _ _ h => h) (Or.inl ⟨by rfl, ?ha18⟩) (by assumption) ?ra18
  case ha18 => intro w hSw; (try dsimp only at hSw); go_simp; (try with_reducible rfl)
  simp only [Act.put, List.getElem_toArray, List.getElem_cons_zero, List.getElem_cons_succ, List.setIfInBounds_toArray, List.set_cons_zero, List.set_cons_succ]
  refine wpAnyH_take (i := 19) (v := ?va19) rfl (by kernel_rfl) (by kernel_rfl) (by kernel_rfl) (fun _ _ _ h => h) (Or.inl ⟨by rfl, ?ha19⟩) (by assumption) ?ra19
  case ha19 => intro w hSw; (try dsimp only at hSw); go_simp; (try with_reducible rfl)
  simp only [Act.put, List.getElem_toArray, List.getElem_cons_zero, List.getElem_cons_succ, List.setIfInBounds_toArray, List.set_cons_zero, List.set_cons_succ]
  refine wpAnyH_take (i := 20) (v := ?va20) rfl (by kernel_rfl) (by kernel_rfl) (by kernel_rfl) (fun _ _ _ h => h) (Or.inl ⟨by rfl, ?ha20⟩) (by assumption) ?ra20
  case ha20 => intro w hSw; (try dsimp only at hSw); go_simp; (try with_reducible rfl)
  simp only [Act.put, List.getElem_toArray, List.getElem_cons_zero, List.getElem_cons_succ, List.setIfInBounds_toArray, List.set_cons_zero, List.set_cons_succ]
  refine wpAnyH_take (i := 21) (v := ?va21) rfl (by kernel_rfl) (by kernel_rfl) (by kernel_rfl) (fun _ _ _ h => h) (Or.inl ⟨by rfl, ?ha21⟩) (by assumption) ?ra21
  case ha21 => intro w hSw; (try dsimp only at hSw); go_simp; (try with_reducible rfl)
  simp only [Act.put, List.getElem_toArray, List.getElem_cons_zero, List.getElem_cons_succ, List.setIfInBounds_toArray, List.set_cons_zero, List.set_cons_succ]
  refine wpAnyH_take (i := 22) (v := ?va22) rfl (by kernel_rfl) (by kernel_rfl) (by kernel_rfl) (fun _ _ _ h => h) (Or.inl ⟨by rfl, ?ha22⟩) (by assumption) ?ra22
  case ha22 => intro w hSw; (try dsimp only at hSw); go_simp; (try with_reducible rfl)
  simp only [Act.put, List.getElem_toArray, List.getElem_cons_zero, List.getElem_cons_succ, List.setIfInBounds_toArray, List.set_cons_zero, List.set_cons_succ]
  refine wpAnyH_take (i := 23) (v := ?va23) rfl (by kernel_rfl) (by kernel_rfl) (by kernel_rfl) (fun _ _ _ h => h) (Or.inl ⟨by rfl, ?ha23⟩) (by assumption) ?ra23
  case ha23 => intro w hSw; (try dsimp only at hSw); go_simp; (try with_reducible rfl)
  simp only [Act.put, List.getElem_toArray, List.getElem_cons_zero, List.getElem_cons_succ, List.setIfInBounds_toArray, List.set_cons_zero, List.set_cons_succ]
  refine wpAnyH_take (i := 24) (v := ?va24) rfl (by kernel_rfl) (by kernel_rfl) (by kernel_rfl) (fun _ _ _ h => h) (Or.inl ⟨by rfl, ?ha24⟩) (by assumption) ?ra24
  case ha24 => intro w hSw; (try dsimp only at hSw); go_simp; (try with_reducible rfl)
  simp only [Act.put, List.getElem_toArray, List.getElem_cons_zero, List.getElem_cons_succ, List.setIfInBounds_toArray, List.set_cons_zero, List.set_cons_succ]
  refine wpAnyH_take (i := 25) (v := ?va25) rfl (by kernel_rfl) (by kernel_rfl) (by kernel_rfl) (fun _ _ _ h => h) (Or.inl ⟨by rfl, ?ha25⟩) (by assumption) ?ra25
  case ha25 => intro w hSw; (try dsimp only at hSw); go_simp; (try with_reducible rfl)
  simp only [Act.put, List.getElem_toArray, List.getElem_cons_zero, List.getElem_cons_succ, List.setIfInBounds_toArray, List.set_cons_zero, List.set_cons_succ]
  refine wpAnyH_take (i := 26) (v := ?va26) rfl (by kernel_rfl) (by kernel_rfl) (by kernel_rfl) (fun _ _ _ h => h) (Or.inl ⟨by rfl, ?ha26⟩) (by assumption) ?ra26
  case ha26 => intro w hSw; (try dsimp only at hSw); go_simp; (try with_reducible rfl)
  simp only [Act.put, List.getElem_toArray, List.getElem_cons_zero, List.getElem_cons_succ, List.setIfInBounds_toArray, List.set_cons_zero, List.set_cons_succ]
  refine wpAnyH_take (i := 27) (v := ?va27) rfl (by kernel_rfl) (by kernel_rfl) (by kernel_rfl) (fun _ _ _ h => h) (Or.inl ⟨by rfl, ?ha27⟩) (by assumption) ?ra27
  case ha27 => intro w hSw; (try dsimp only at hSw); go_simp; (try with_reducible rfl)
  simp only [Act.put, List.getElem_toArray, List.getElem_cons_zero, List.getElem_cons_succ, List.setIfInBounds_toArray, List.set_cons_zero, List.set_cons_succ]
  refine wpAnyH_take (i := 28) (v := ?va28) rfl (by kernel_rfl) (by kernel_rfl) (by kernel_rfl) (fun _ _ _ h => h) (Or.inl ⟨by rfl, ?ha28⟩) (by assumption) ?ra28
  case ha28 => intro w hSw; (try dsimp only at hSw); go_simp; (try with_reducible rfl)
  simp only [Act.put, List.getElem_toArray, List.getElem_cons_zero, List.getElem_cons_succ, List.setIfInBounds_toArray, List.set_cons_zero, List.set_cons_succ]
  refine wpAnyH_take (i := 29) (v := ?va29) rfl (by kernel_rfl) (by kernel_rfl) (by kernel_rfl) (fun _ _ _ h => h) (Or.inl ⟨by rfl, ?ha29⟩) (by assumption) ?ra29
  case ha29 => intro w hSw; (try dsimp only at hSw); go_simp; (try with_reducible rfl)
  simp only [Act.put, List.getElem_toArray, List.getElem_cons_zero, List.getElem_cons_succ, List.setIfInBounds_toArray, List.set_cons_zero, List.set_cons_succ]
  refine wpAnyH_take (i := 30) (v := ?va30) rfl (by kernel_rfl) (by kernel_rfl) (by kernel_rfl) (fun _ _ _ h => h) (Or.inl ⟨by rfl, ?ha30⟩) (by assumption) ?ra30
  case ha30 => intro w hSw; (try dsimp only at hSw); go_simp; (try with_reducible rfl)
  simp only [Act.put, List.getElem_toArray, List.getElem_cons_zero, List.getElem_cons_succ, List.setIfInBounds_toArray, List.set_cons_zero, List.set_cons_succ]
  refine wpAnyH_take (i := 31) (v := ?va31) rfl (by kernel_rfl) (by kernel_rfl) (by kernel_rfl) (fun _ _ _ h => h) (Or.inl ⟨by rfl, ?ha31⟩) (by assumption) ?ra31
  case ha31 => intro w hSw; (try dsimp only at hSw); go_simp; (try with_reducible rfl)
  simp only [Act.put, List.getElem_toArray, List.getElem_cons_zero, List.getElem_cons_succ, List.setIfInBounds_toArray, List.set_cons_zero, List.set_cons_succ]
  refine wpAnyH_take (i := 32) (v := ?va32) rfl (by kernel_rfl) (by kernel_rfl) (by kernel_rfl) (fun _ _ _ h => h) (Or.inl ⟨by rfl, ?ha32⟩) (by assumption) ?ra32
  case ha32 => intro w hSw; (try dsimp only at hSw); go_simp; (try with_reducible rfl)
  simp only [Act.put, List.getElem_toArray, List.getElem_cons_zero, List.getElem_cons_succ, List.setIfInBounds_toArray, List.set_cons_zero, List.set_cons_succ]
  refine wpAnyH_take (i := 33) (v := ?va33) rfl (by kernel_rfl) (by kernel_rfl) (by kernel_rfl) (fun _ _ _ h => h) (Or.inl ⟨by rfl, ?ha33⟩) (by assumption) ?ra33
  case ha33 => intro w hSw; (try dsimp only at hSw); go_simp; (try with_reducible rfl)
  simp only [Act.put, List.getElem_toArray, List.getElem_cons_zero, List.getElem_cons_succ, List.setIfInBounds_toArray, List.set_cons_zero, List.set_cons_succ]
  refine wpAnyH_done (by kernel_rfl) ?_ _
  clear hH
  have hu0 : Below w5.heap.size w5 w5.drew := (Below.refl _ _).drew
  have x10 := x1
  have x20 := x2
  have y10 := y1
  have y20 := y2
  have x0 := (hu0.cell (p := ⟨w1.heap.size, 0, none⟩) lt1).trans x0
  have x1 := (hu0.cell (p := ⟨w1.heap.size, 1, none⟩) lt1).trans x1
  have x2 := (hu0.cell (p := ⟨w1.heap.size, 2, none⟩) lt1).trans x2
  have x5 := (hu0.cell (p := ⟨w1.heap.size, 5, none⟩) lt1).trans x5
  have y0 := (hu0.cell (p := ⟨w2.heap.size, 0, none⟩) lt2).trans y0
  have y1 := (hu0.cell (p := ⟨w2.heap.size, 1, none⟩) lt2).trans y1
  have y2 := (hu0.cell (p := ⟨w2.heap.size, 2, none⟩) lt2).trans y2
  have y5 := (hu0.cell (p := ⟨w2.heap.size, 5, none⟩) lt2).trans y5
  have p0 := (hu0.cell (p := ⟨g1, 0, none⟩) lt3).trans p0
  have p1 := (hu0.cell (p := ⟨g1, 1, none⟩) lt3).trans p1
  have r0 := (hu0.cell (p := ⟨g2, 0, none⟩) lt4).trans r0
  have r1 := (hu0.cell (p := ⟨g2, 1, none⟩) lt4).trans r1
  have lu0 : w5.heap.size ≤ w5.drew.heap.size := Nat.le_refl _
  obtain ⟨u0, hu⟩ : ∃ u, w5.drew = u := ⟨_, rfl⟩
  rw [hu] at hu0 lu0 x0 x1 x2 x5 y0 y1 y2 y5 p0 p1 r0 r1 ⊢
  clear hu
  have HC1 := Lib.hid (fun w' (hb : Below w5.heap.size w5 w') => begins_any _ _ Rb.2.2.o0 Ra.2.2.o0 w' w5.heap.size hb.size (QL2.out.mono hb (Nat.le_refl _)) (QL1.out.mono hb (Nat.le_refl _)) HLE.out.1)
  have HC2 := Lib.hid (fun w' (hb : Below w5.heap.size w5 w') => begins_any _ _ Rb.2.2.o1 Ra.2.2.o1 w' w5.heap.size hb.size (QH2.out.mono hb (Nat.le_refl _)) (QH1.out.mono hb (Nat.le_refl _)) HLE.out.2)
  rw [decide_eq_true HON.out.1] at HC1
  rw [decide_eq_true HON.out.2.1] at HC2
  go_wp2_with (first | (go_at_call 18; refine (HC1.out _ hu0).mono ?_; rintro e u1 ⟨rfl, hbu1⟩; have hu1 := hu0.trans (hbu1.mono lu0); clear x1 x2 y1 y2 hbu1 HC1; have x1 := (hu1.cell (p := ⟨w1.heap.size, 1, none⟩) lt1).trans x10; have x2 := (hu1.cell (p := ⟨w1.heap.size, 2, none⟩) lt1).trans x20; have y1 := (hu1.cell (p := ⟨w2.heap.size, 1, none⟩) lt2).trans y10; have y2 := (hu1.cell (p := ⟨w2.heap.size, 2, none⟩) lt2).trans y20) | (go_at_call 18; refine (HC2.out _ hu1).mono ?_; rintro e u2 ⟨rfl, hbu2⟩; have hu2 := hu1.trans (hbu2.mono hu1.size); clear hbu2 HC2))
  go_ret
  exact ⟨rfl, HW.out.trans (hu2.mono HW.out.size)⟩
set_option maxRecDepth 100000 in
set_option maxHeartbeats 16000000 in
theorem longer_end (b off cap : Nat) (code : List Ins) (lo hi : Nat) (v0 v1 : Value) (i0 i1 : List Int) (few more : Nat) (w : World) (hv : Orders w b off code) (hb : b < w.heap.size) (hmay : mayB code lo hi = true) (hok : ∀ i ∈ code, okI i.n) (hfm : few ≤ more) (hf : more ≤ 5000) (q0 : InB w w.heap.size v0 i0) (q1 : InB w w.heap.size v1 i1) (k0 : ∀ x ∈ i0, okI x) (k1 : ∀ x ∈ i1, okI x) (hl0 : i0.length ≤ 1000) (hl1 : i1.length ≤ 1000) (hbig : code.length ≤ 9223372036854775807) (hend : (runF code i0 i1 few (zeroM lo hi)).1 ≠ 0) :
    Calls Try.prog 7 #[.agg #[.slice (some ⟨b, off, none⟩) code.length cap, .int .i64 lo, .int .i64 hi], v0, v1, .int .i64 few, .int .i64 more] w fun e w' => e = .returned (.bool true) ∧ Below w.heap.size w w' := by
  have HRUN1 := Lib.hid (fun w' (hb2 : Below w.heap.size w w') => run_ok b off cap code lo hi v0 v1 i0 i1 few w' (hv.below hb2 hb) (Nat.lt_of_lt_of_le hb hb2.size) hmay hok (by omega) (q0.mono hb2 hb2.size) (q1.mono hb2 hb2.size) k0 k1 hl0 hl1 hbig)
  have HRUN2 := Lib.hid (fun w' (hb2 : Below w.heap.size w w') => run_ok b off cap code lo hi v0 v1 i0 i1 more w' (hv.below hb2 hb) (Nat.lt_of_lt_of_le hb hb2.size) hmay hok (by omega) (q0.mono hb2 hb2.size) (q1.mono hb2 hb2.size) k0 k1 hl0 hl1 hbig)
  have hla := run_len code i0 i1 few (zeroM lo hi)
  have hlb := run_len code i0 i1 more (zeroM lo hi)
  have hcode : ∀ i ∈ code, orderB i code.length = true ∧ okI i.n := fun i hi' => ⟨by
    simp only [mayB, Bool.and_eq_true, List.all_eq_true] at hmay
    exact hmay.2 i hi', hok i hi'⟩
  have hga : Good code.length (0 + few) (runF code i0 i1 few (zeroM lo hi)).2.2 := run_good code i0 i1 hcode k0 k1 few 0 _ (good_start _ _ _)
  have hgb : Good code.length (0 + more) (runF code i0 i1 more (zeroM lo hi)).2.2 := run_good code i0 i1 hcode k0 k1 more 0 _ (good_start _ _ _)
  have hmm := hmay
  simp only [mayB, Bool.and_eq_true, decide_eq_true_eq] at hmm
  have hlo : lo ≤ 20000 := by omega
  have hhi : hi ≤ 20000 := by omega
  have hla0 : (runF code i0 i1 few (zeroM lo hi)).2.2.lo.length = lo := by rw [hla.1]; simp [zeroM]
  have hla1 : (runF code i0 i1 few (zeroM lo hi)).2.2.hi.length = hi := by rw [hla.2]; simp [zeroM]
  have hlb0 : (runF code i0 i1 more (zeroM lo hi)).2.2.lo.length = lo := by rw [hlb.1]; simp [zeroM]
  have hlb1 : (runF code i0 i1 more (zeroM lo hi)).2.2.hi.length = hi := by rw [hlb.2]; simp [zeroM]
  have hsame : (runF code i0 i1 more (zeroM lo hi)) = (runF code i0 i1 few (zeroM lo hi)) := run_more code i0 i1 few more _ hfm hend
  rw [hsame] at HRUN2 hlb0 hlb1
  have ho0 : (runF code i0 i1 more (zeroM lo hi)).2.2.o0.length ≤ 9223372036854775807 := by have := hgb.o0; omega
  have ho1 : (runF code i0 i1 more (zeroM lo hi)).2.2.o1.length ≤ 9223372036854775807 := by have := hgb.o1; omega
  rw [hsame] at ho0 ho1
  generalize (runF code i0 i1 few (zeroM lo hi)) = Ra at *
  have HLE := Lib.hid (And.intro ho0 ho1)
  have HLA := Lib.hid (And.intro hla0 (And.intro hla1 (And.intro hlb0 hlb1)))
  have hne : (Ra.1 == 0) = false := by simp; exact hend
  obtain ⟨A0, d0, hv0⟩ := q0.len
  obtain ⟨A1, d1, hv1⟩ := q1.len
  clear hv hmay hok q0 q1 k0 k1 hl0 hl1 hla hlb hcode hga hgb hmm ho0 ho1 hla0 hla1 hlb0 hlb1 hend hsame
  generalize code.length = n at *
  generalize i0.length = m0 at *
  generalize i1.length = m1 at *
  subst hv0
  subst hv1
  have hq0 : ¬ (few : Int) < 0 := by omega
  have hq1 : ¬ (more : Int) < (few : Int) := by omega
  have hq2 : ¬ (5000 : Int) < (more : Int) := by omega
  have HB0 := Lib.hid ((Below.refl w.heap.size w).alloc (Nat.le_refl _) (.cells #[.slice (some ⟨b, off, none⟩) n cap, .int .i64 lo, .int .i64 hi] 30))
  go_enter Try.func7, Try.ntmps7
  go_upto_region 7 with (first | (go_at_call 14; refine (HRUN1.out _ HB0.out).mono ?_; rintro e w1 ⟨g1, vl1, vh1, va1, vb1, rfl, ca1, cb1, ql1, qh1, qa1, qb1, hb1⟩; obtain ⟨Al1, cl1, rfl⟩ := ql1.len; obtain ⟨Ah1, ch1, rfl⟩ := qh1.len; obtain ⟨Aa1, ka1, rfl⟩ := qa1.len; obtain ⟨Ab1, kb1, rfl⟩ := qb1.len; rw [HLA.out.1] at ca1 qa1; rw [HLA.out.2.1] at cb1 qb1; have hgl1 := World.block_lt_of_cell? w1 _ ca1; have HQ1 := Lib.hid (And.intro ql1 (And.intro qh1 (And.intro qa1 qb1))); have hk1 := box_head hb1; have hb1a : Below w1.heap.size w1 (w1.alloc (.cells #[.int .i64 Ra.1, .slice Al1 Ra.2.2.o0.length cl1, .slice Ah1 Ra.2.2.o1.length ch1, .int .i64 Ra.2.2.u0, .int .i64 Ra.2.2.u1, .int .i64 Ra.2.1] 34)) := (Below.refl _ _).alloc (Nat.le_refl _) _; have HB1 := Lib.hid (box_next hk1 hb1a); have hKc1 := HB1.out.1.cell; have hKl1 := hk1.2.1; have HA1 := Lib.hid hb1a; clear hb1 hk1 hb1a; clear ql1 qh1 qa1 qb1 HRUN1) | (go_at_call 14; refine (HRUN2.out _ HB1.out.2.2).mono ?_; rintro e w2 ⟨g2, vl2, vh2, va2, vb2, rfl, ca2, cb2, ql2, qh2, qa2, qb2, hb2⟩; obtain ⟨Al2, cl2, rfl⟩ := ql2.len; obtain ⟨Ah2, ch2, rfl⟩ := qh2.len; obtain ⟨Aa2, ka2, rfl⟩ := qa2.len; obtain ⟨Ab2, kb2, rfl⟩ := qb2.len; rw [HLA.out.2.2.1] at ca2 qa2; rw [HLA.out.2.2.2] at cb2 qb2; have hgl2 := World.block_lt_of_cell? w2 _ ca2; have HQ2 := Lib.hid (And.intro ql2 (And.intro qh2 (And.intro qa2 qb2))); have HB2 := Lib.hid (box_next HB1.out hb2); have HA2 := Lib.hid hb2; clear hb2; clear ql2 qh2 qa2 qb2 HRUN2))
  obtain ⟨w5, hw5⟩ : ∃ u, w2.alloc (.cells #[.int .i64 Ra.1, .slice Al2 Ra.2.2.o0.length cl2, .slice Ah2 Ra.2.2.o1.length ch2, .int .i64 Ra.2.2.u0, .int .i64 Ra.2.2.u1, .int .i64 Ra.2.1] 34) = u := ⟨_, rfl⟩
  have hk2 := Blk.made w2 #[.int .i64 Ra.1, .slice Al2 Ra.2.2.o0.length cl2, .slice Ah2 Ra.2.2.o1.length ch2, .int .i64 Ra.2.2.u0, .int .i64 Ra.2.2.u1, .int .i64 Ra.2.1] 34
  have ha2 : Below w2.heap.size w2 (w2.alloc (.cells #[.int .i64 Ra.1, .slice Al2 Ra.2.2.o0.length cl2, .slice Ah2 Ra.2.2.o1.length ch2, .int .i64 Ra.2.2.u0, .int .i64 Ra.2.2.u1, .int .i64 Ra.2.1] 34)) := (Below.refl _ _).alloc (Nat.le_refl _) _
  have hs2 : w2.heap.size < (w2.alloc (.cells #[.int .i64 Ra.1, .slice Al2 Ra.2.2.o0.length cl2, .slice Ah2 Ra.2.2.o1.length ch2, .int .i64 Ra.2.2.u0, .int .i64 Ra.2.2.u1, .int .i64 Ra.2.1] 34)).heap.size := by simp
  rw [hw5] at hk2 ha2 hs2 ⊢
  clear hw5
  have hs1 : w1.heap.size < w2.heap.size := by have := HA2.out.size; simp at this; omega
  have hk1 := Blk.ext (Blk.ext (Blk.made w1 #[.int .i64 Ra.1, .slice Al1 Ra.2.2.o0.length cl1, .slice Ah1 Ra.2.2.o1.length ch1, .int .i64 Ra.2.2.u0, .int .i64 Ra.2.2.u1, .int .i64 Ra.2.1] 34) (Below.toExt HA2.out)) (Below.toExt ha2)
  have HX1 := Lib.hid ((HA1.out.trans (HA2.out.mono (by simp))).trans (ha2.mono (Nat.le_of_lt hs1)))
  have HX2 := Lib.hid ha2
  try dsimp only at hgl1 hgl2
  have x0 := hk1.cell 0
  have x1 := hk1.cell 1
  have x2 := hk1.cell 2
  have x5 := hk1.cell 5
  have y0 := hk2.cell 0
  have y1 := hk2.cell 1
  have y2 := hk2.cell 2
  have y5 := hk2.cell 5
  simp only [List.getElem?_toArray, List.getElem?_cons_zero, List.getElem?_cons_succ] at x0 x1 x2 x5 y0 y1 y2 y5
  have p0 := (HX1.out.cell (p := ⟨g1, 0, none⟩) hgl1).trans ca1
  have p1 := (HX1.out.cell (p := ⟨g1, 1, none⟩) hgl1).trans cb1
  have r0 := (HX2.out.cell (p := ⟨g2, 0, none⟩) hgl2).trans ca2
  have r1 := (HX2.out.cell (p := ⟨g2, 1, none⟩) hgl2).trans cb2
  have lt1 : w1.heap.size < w5.heap.size := by omega
  have lt2 : w2.heap.size < w5.heap.size := hs2
  have lt3 : g1 < w5.heap.size := by omega
  have lt4 : g2 < w5.heap.size := by omega
  have HW := Lib.hid (show Below w.heap.size w w5 from HB2.out.2.2.trans (HX2.out.mono (Nat.le_of_lt HB2.out.2.1)))
  have QL1 := Lib.hid (HQ1.out.1.mono HX1.out (Nat.le_of_lt lt1))
  have QH1 := Lib.hid (HQ1.out.2.1.mono HX1.out (Nat.le_of_lt lt1))
  have QA1 := Lib.hid (HQ1.out.2.2.1.mono HX1.out (Nat.le_of_lt lt1))
  have QB1 := Lib.hid (HQ1.out.2.2.2.mono HX1.out (Nat.le_of_lt lt1))
  have QL2 := Lib.hid (HQ2.out.1.mono HX2.out (Nat.le_of_lt lt2))
  have QH2 := Lib.hid (HQ2.out.2.1.mono HX2.out (Nat.le_of_lt lt2))
  have QA2 := Lib.hid (HQ2.out.2.2.1.mono HX2.out (Nat.le_of_lt lt2))
  have QB2 := Lib.hid (HQ2.out.2.2.2.mono HX2.out (Nat.le_of_lt lt2))
  clear hk1 hk2 ha2 ca1 cb1 ca2 cb2 hs1 hs2 hgl1 hgl2
  refine wp_region_held_drew (S := fun w' => w'.cell? ⟨w1.heap.size, 0, none⟩ = some (.int .i64 Ra.1) ∧ w'.cell? ⟨w1.heap.size, 1, none⟩ = some (.slice Al1 Ra.2.2.o0.length cl1) ∧ w'.cell? ⟨w1.heap.size, 2, none⟩ = some (.slice Ah1 Ra.2.2.o1.length ch1) ∧ w'.cell? ⟨w1.heap.size, 5, none⟩ = some (.int .i64 Ra.2.1) ∧ w'.cell? ⟨w2.heap.size, 0, none⟩ = some (.int .i64 Ra.1) ∧ w'.cell? ⟨w2.heap.size, 1, none⟩ = some (.slice Al2 Ra.2.2.o0.length cl2) ∧ w'.cell? ⟨w2.heap.size, 2, none⟩ = some (.slice Ah2 Ra.2.2.o1.length ch2) ∧ w'.cell? ⟨w2.heap.size, 5, none⟩ = some (.int .i64 Ra.2.1) ∧ w'.cell? ⟨g1, 0, none⟩ = some (.slice Aa1 lo ka1) ∧ w'.cell? ⟨g1, 1, none⟩ = some (.slice Ab1 hi kb1) ∧ w'.cell? ⟨g2, 0, none⟩ = some (.slice Aa2 lo ka2) ∧ w'.cell? ⟨g2, 1, none⟩ = some (.slice Ab2 hi kb2)) mw.mixed ⟨x0, x1, x2, x5, y0, y1, y2, y5, p0, p1, r0, r1⟩ (fun hH => ?_)
  refine wpAnyH_take (i := 0) (v := ?va0) rfl (by kernel_rfl) (by kernel_rfl) (by kernel_rfl) (fun _ _ _ h => h) (Or.inl ⟨by rfl, ?ha0⟩) (by assumption) ?ra0
  case ha0 => intro w hSw; (try dsimp only at hSw); go_simp; (try with_reducible rfl)
  simp only [Act.put, List.getElem_toArray, List.getElem_cons_zero, List.setIfInBounds_toArray, List.set_cons_zero, List.set_cons_succ]
  refine wpAnyH_take (i := 1) (v := ?va1) rfl (by kernel_rfl) (by kernel_rfl) (by kernel_rfl) (fun _ _ _ h => h) (Or.inl ⟨by rfl, ?ha1⟩) (by assumption) ?ra1
  case ha1 => intro w hSw; (try dsimp only at hSw); go_simp; (try with_reducible rfl)
  simp only [Act.put, List.getElem_toArray, List.getElem_cons_zero, List.getElem_cons_succ, List.setIfInBounds_toArray, List.set_cons_zero, List.set_cons_succ]
  refine wpAnyH_take (i := 2) (v := ?va2) rfl (by kernel_rfl) (by kernel_rfl) (by kernel_rfl) (fun _ _ _ h => h) (Or.inl ⟨by rfl, ?ha2⟩) (by assumption) ?ra2
  case ha2 => intro w hSw; (try dsimp only at hSw); go_simp; (try with_reducible rfl)
  simp only [Act.put, List.getElem_toArray, List.getElem_cons_zero, List.getElem_cons_succ, List.setIfInBounds_toArray, List.set_cons_zero, List.set_cons_succ]
  refine wpAnyH_take (i := 3) (v := ?va3) rfl (by kernel_rfl) (by kernel_rfl) (by kernel_rfl) (fun _ _ _ h => h) (Or.inl ⟨by rfl, ?ha3⟩) (by assumption) ?ra3
  case ha3 => intro w hSw; (try dsimp only at hSw); go_simp; (try with_reducible rfl)
  simp only [Act.put, List.getElem_toArray, List.getElem_cons_zero, List.getElem_cons_succ, List.setIfInBounds_toArray, List.set_cons_zero, List.set_cons_succ]
  refine wpAnyH_take (i := 4) (v := ?va4) rfl (by kernel_rfl) (by kernel_rfl) (by kernel_rfl) (fun _ _ _ h => h) (Or.inl ⟨by rfl, ?ha4⟩) (by assumption) ?ra4
  case ha4 => intro w hSw; (try dsimp only at hSw); go_simp; (try with_reducible rfl)
  simp only [Act.put, List.getElem_toArray, List.getElem_cons_zero, List.getElem_cons_succ, List.setIfInBounds_toArray, List.set_cons_zero, List.set_cons_succ]
  refine wpAnyH_take (i := 5) (v := ?va5) rfl (by kernel_rfl) (by kernel_rfl) (by kernel_rfl) (fun _ _ _ h => h) (Or.inl ⟨by rfl, ?ha5⟩) (by assumption) ?ra5
  case ha5 => intro w hSw; (try dsimp only at hSw); go_simp; (try with_reducible rfl)
  simp only [Act.put, List.getElem_toArray, List.getElem_cons_zero, List.getElem_cons_succ, List.setIfInBounds_toArray, List.set_cons_zero, List.set_cons_succ]
  refine wpAnyH_take (i := 6) (v := ?va6) rfl (by kernel_rfl) (by kernel_rfl) (by kernel_rfl) (fun _ _ _ h => h) (Or.inl ⟨by rfl, ?ha6⟩) (by assumption) ?ra6
  case ha6 => intro w hSw; (try dsimp only at hSw); go_simp; (try with_reducible rfl)
  simp only [Act.put, List.getElem_toArray, List.getElem_cons_zero, List.getElem_cons_succ, List.setIfInBounds_toArray, List.set_cons_zero, List.set_cons_succ]
  refine wpAnyH_take (i := 7) (v := ?va7) rfl (by kernel_rfl) (by kernel_rfl) (by kernel_rfl) (fun _ _ _ h => h) (Or.inl ⟨by rfl, ?ha7⟩) (by assumption) ?ra7
  case ha7 => intro w hSw; (try dsimp only at hSw); go_simp; (try with_reducible rfl)
  simp only [Act.put, List.getElem_toArray, List.getElem_cons_zero, List.getElem_cons_succ, List.setIfInBounds_toArray, List.set_cons_zero, List.set_cons_succ]
  refine wpAnyH_take (i := 8) (v := ?va8) rfl (by kernel_rfl) (by kernel_rfl) (by kernel_rfl) (fun _ _ _ h => h) (Or.inl ⟨by rfl, ?ha8⟩) (by assumption) ?ra8
  case ha8 => intro w hSw; (try dsimp only at hSw); go_simp; (try with_reducible rfl)
  simp only [Act.put, List.getElem_toArray, List.getElem_cons_zero, List.getElem_cons_succ, List.setIfInBounds_toArray, List.set_cons_zero, List.set_cons_succ]
  refine wpAnyH_take (i := 9) (v := ?va9) rfl (by kernel_rfl) (by kernel_rfl) (by kernel_rfl) (fun _ _ _ h => h) (Or.inl ⟨by rfl, ?ha9⟩) (by assumption) ?ra9
  case ha9 => intro w hSw; (try dsimp only at hSw); go_simp; (try with_reducible rfl)
  simp only [Act.put, List.getElem_toArray, List.getElem_cons_zero, List.getElem_cons_succ, List.setIfInBounds_toArray, List.set_cons_zero, List.set_cons_succ]
  refine wpAnyH_take (i := 10) (v := ?va10) rfl (by kernel_rfl) (by kernel_rfl) (by kernel_rfl) (fun _ _ _ h => h) (Or.inl ⟨by rfl, ?ha10⟩) (by assumption) ?ra10
  case ha10 => intro w hSw; (try dsimp only at hSw); go_simp; (try with_reducible rfl)
  simp only [Act.put, List.getElem_toArray, List.getElem_cons_zero, List.getElem_cons_succ, List.setIfInBounds_toArray, List.set_cons_zero, List.set_cons_succ]
  refine wpAnyH_take (i := 11) (v := ?va11) rfl (by kernel_rfl) (by kernel_rfl) (by kernel_rfl) (fun _ _ _ h => h) (Or.inl ⟨by rfl, ?ha11⟩) (by assumption) ?ra11
  case ha11 => intro w hSw; (try dsimp only at hSw); go_simp; (try with_reducible rfl)
  simp only [Act.put, List.getElem_toArray, List.getElem_cons_zero, List.getElem_cons_succ, List.setIfInBounds_toArray, List.set_cons_zero, List.set_cons_succ]
  refine wpAnyH_take (i := 12) (v := ?va12) rfl (by kernel_rfl) (by kernel_rfl) (by kernel_rfl) (fun _ _ _ h => h) (Or.inl ⟨by rfl, ?ha12⟩) (by assumption) ?ra12
  case ha12 => intro w hSw; (try dsimp only at hSw); go_simp; (try with_reducible rfl)
  simp only [Act.put, List.getElem_toArray, List.getElem_cons_zero, List.getElem_cons_succ, List.setIfInBounds_toArray, List.set_cons_zero, List.set_cons_succ]
  refine wpAnyH_take (i := 13) (v := ?va13) rfl (by kernel_rfl) (by kernel_rfl) (by kernel_rfl) (fun _ _ _ h => h) (Or.inl ⟨by rfl, ?ha13⟩) (by assumption) ?ra13
  case ha13 => intro w hSw; (try dsimp only at hSw); go_simp; (try with_reducible rfl)
  simp only [Act.put, List.getElem_toArray, List.getElem_cons_zero, List.getElem_cons_succ, List.setIfInBounds_toArray, List.set_cons_zero, List.set_cons_succ]
  refine wpAnyH_take (i := 14) (v := ?va14) rfl (by kernel_rfl) (by kernel_rfl) (by kernel_rfl) (fun _ _ _ h => h) (Or.inl ⟨by rfl, ?ha14⟩) (by assumption) ?ra14
  case ha14 => intro w hSw; (try dsimp only at hSw); go_simp; (try with_reducible rfl)
  simp only [Act.put, List.getElem_toArray, List.getElem_cons_zero, List.getElem_cons_succ, List.setIfInBounds_toArray, List.set_cons_zero, List.set_cons_succ]
  refine wpAnyH_take (i := 15) (v := ?va15) rfl (by kernel_rfl) (by kernel_rfl) (by kernel_rfl) (fun _ _ _ h => h) (Or.inl ⟨by rfl, ?ha15⟩) (by assumption) ?ra15
  case ha15 => intro w hSw; (try dsimp only at hSw); go_simp; (try with_reducible rfl)
  simp only [Act.put, List.getElem_toArray, List.getElem_cons_zero, List.getElem_cons_succ, List.setIfInBounds_toArray, List.set_cons_zero, List.set_cons_succ]
  refine wpAnyH_take (i := 16) (v := ?va16) rfl (by kernel_rfl) (by kernel_rfl) (by kernel_rfl) (fun _ _ _ h => h) (Or.inl ⟨by rfl, ?ha16⟩) (by assumption) ?ra16
  case ha16 => intro w hSw; (try dsimp only at hSw); go_simp; (try with_reducible rfl)
  simp only [Act.put, List.getElem_toArray, List.getElem_cons_zero, List.getElem_cons_succ, List.setIfInBounds_toArray, List.set_cons_zero, List.set_cons_succ]
  refine wpAnyH_take (i := 17) (v := ?va17) rfl (by kernel_rfl) (by kernel_rfl) (by kernel_rfl) (fun _ _ _ h => h) (Or.inl ⟨by rfl, ?ha17⟩) (by assumption) ?ra17
  case ha17 => intro w hSw; (try dsimp only at hSw); go_simp; (try with_reducible rfl)
  simp only [Act.put, List.getElem_toArray, List.getElem_cons_zero, List.getElem_cons_succ, List.setIfInBounds_toArray, List.set_cons_zero, List.set_cons_succ]
  refine wpAnyH_take (i := 18) (v := ?va18) rfl (by kernel_rfl) (by kernel_rfl) (by kernel_rfl) (fun _ _ _ h => h) (Or.inl ⟨by rfl, ?ha18⟩) (by assumption) ?ra18
  case ha18 => intro w hSw; (try dsimp only at hSw); go_simp; (try with_reducible rfl)
  simp only [Act.put, List.getElem_toArray, List.getElem_cons_zero, List.getElem_cons_succ, List.setIfInBounds_toArray, List.set_cons_zero, List.set_cons_succ]
  refine wpAnyH_take (i := 19) (v := ?va19) rfl (by kernel_rfl) (by kernel_rfl) (by kernel_rfl) (fun _ _ _ h => h) (Or.inl ⟨by rfl, ?ha19⟩) (by assumption) ?ra19
  case ha19 => intro w hSw; (try dsimp only at hSw); go_simp; (try with_reducible rfl)
  simp only [Act.put, List.getElem_toArray, List.getElem_cons_zero, List.getElem_cons_succ, List.setIfInBounds_toArray, List.set_cons_zero, List.set_cons_succ]
  refine wpAnyH_take (i := 20) (v := ?va20) rfl (by kernel_rfl) (by kernel_rfl) (by kernel_rfl) (fun _ _ _ h => h) (Or.inl ⟨by rfl, ?ha20⟩) (by assumption) ?ra20
  case ha20 => intro w hSw; (try dsimp only at hSw); go_simp; (try with_reducible rfl)
  simp only [Act.put, List.getElem_toArray, List.getElem_cons_zero, List.getElem_cons_succ, List.setIfInBounds_toArray, List.set_cons_zero, List.set_cons_succ]
  refine wpAnyH_take (i := 21) (v := ?va21) rfl (by kernel_rfl) (by kernel_rfl) (by kernel_rfl) (fun _ _ _ h => h) (Or.inl ⟨by rfl, ?ha21⟩) (by assumption) ?ra21
  case ha21 => intro w hSw; (try dsimp only at hSw); go_simp; (try with_reducible rfl)
  simp only [Act.put, List.getElem_toArray, List.getElem_cons_zero, List.getElem_cons_succ, List.setIfInBounds_toArray, List.set_cons_zero, List.set_cons_succ]
  refine wpAnyH_take (i := 22) (v := ?va22) rfl (by kernel_rfl) (by kernel_rfl) (by kernel_rfl) (fun _ _ _ h => h) (Or.inl ⟨by rfl, ?ha22⟩) (by assumption) ?ra22
  case ha22 => intro w hSw; (try dsimp only at hSw); go_simp; (try with_reducible rfl)
  simp only [Act.put, List.getElem_toArray, List.getElem_cons_zero, List.getElem_cons_succ, List.setIfInBounds_toArray, List.set_cons_zero, List.set_cons_succ]
  refine wpAnyH_take (i := 23) (v := ?va23) rfl (by kernel_rfl) (by kernel_rfl) (by kernel_rfl) (fun _ _ _ h => h) (Or.inl ⟨by rfl, ?ha23⟩) (by assumption) ?ra23
  case ha23 => intro w hSw; (try dsimp only at hSw); go_simp; (try with_reducible rfl)
  simp only [Act.put, List.getElem_toArray, List.getElem_cons_zero, List.getElem_cons_succ, List.setIfInBounds_toArray, List.set_cons_zero, List.set_cons_succ]
  refine wpAnyH_take (i := 24) (v := ?va24) rfl (by kernel_rfl) (by kernel_rfl) (by kernel_rfl) (fun _ _ _ h => h) (Or.inl ⟨by rfl, ?ha24⟩) (by assumption) ?ra24
  case ha24 => intro w hSw; (try dsimp only at hSw); go_simp; (try with_reducible rfl)
  simp only [Act.put, List.getElem_toArray, List.getElem_cons_zero, List.getElem_cons_succ, List.setIfInBounds_toArray, List.set_cons_zero, List.set_cons_succ]
  refine wpAnyH_take (i := 25) (v := ?va25) rfl (by kernel_rfl) (by kernel_rfl) (by kernel_rfl) (fun _ _ _ h => h) (Or.inl ⟨by rfl, ?ha25⟩) (by assumption) ?ra25
  case ha25 => intro w hSw; (try dsimp only at hSw); go_simp; (try with_reducible rfl)
  simp only [Act.put, List.getElem_toArray, List.getElem_cons_zero, List.getElem_cons_succ, List.setIfInBounds_toArray, List.set_cons_zero, List.set_cons_succ]
  refine wpAnyH_take (i := 26) (v := ?va26) rfl (by kernel_rfl) (by kernel_rfl) (by kernel_rfl) (fun _ _ _ h => h) (Or.inl ⟨by rfl, ?ha26⟩) (by assumption) ?ra26
  case ha26 => intro w hSw; (try dsimp only at hSw); go_simp; (try with_reducible rfl)
  simp only [Act.put, List.getElem_toArray, List.getElem_cons_zero, List.getElem_cons_succ, List.setIfInBounds_toArray, List.set_cons_zero, List.set_cons_succ]
  refine wpAnyH_take (i := 27) (v := ?va27) rfl (by kernel_rfl) (by kernel_rfl) (by kernel_rfl) (fun _ _ _ h => h) (Or.inl ⟨by rfl, ?ha27⟩) (by assumption) ?ra27
  case ha27 => intro w hSw; (try dsimp only at hSw); go_simp; (try with_reducible rfl)
  simp only [Act.put, List.getElem_toArray, List.getElem_cons_zero, List.getElem_cons_succ, List.setIfInBounds_toArray, List.set_cons_zero, List.set_cons_succ]
  refine wpAnyH_take (i := 28) (v := ?va28) rfl (by kernel_rfl) (by kernel_rfl) (by kernel_rfl) (fun _ _ _ h => h) (Or.inl ⟨by rfl, ?ha28⟩) (by assumption) ?ra28
  case ha28 => intro w hSw; (try dsimp only at hSw); go_simp; (try with_reducible rfl)
  simp only [Act.put, List.getElem_toArray, List.getElem_cons_zero, List.getElem_cons_succ, List.setIfInBounds_toArray, List.set_cons_zero, List.set_cons_succ]
  refine wpAnyH_take (i := 29) (v := ?va29) rfl (by kernel_rfl) (by kernel_rfl) (by kernel_rfl) (fun _ _ _ h => h) (Or.inl ⟨by rfl, ?ha29⟩) (by assumption) ?ra29
  case ha29 => intro w hSw; (try dsimp only at hSw); go_simp; (try with_reducible rfl)
  simp only [Act.put, List.getElem_toArray, List.getElem_cons_zero, List.getElem_cons_succ, List.setIfInBounds_toArray, List.set_cons_zero, List.set_cons_succ]
  refine wpAnyH_take (i := 30) (v := ?va30) rfl (by kernel_rfl) (by kernel_rfl) (by kernel_rfl) (fun _ _ _ h => h) (Or.inl ⟨by rfl, ?ha30⟩) (by assumption) ?ra30
  case ha30 => intro w hSw; (try dsimp only at hSw); go_simp; (try with_reducible rfl)
  simp only [Act.put, List.getElem_toArray, List.getElem_cons_zero, List.getElem_cons_succ, List.setIfInBounds_toArray, List.set_cons_zero, List.set_cons_succ]
  refine wpAnyH_take (i := 31) (v := ?va31) rfl (by kernel_rfl) (by kernel_rfl) (by kernel_rfl) (fun _ _ _ h => h) (Or.inl ⟨by rfl, ?ha31⟩) (by assumption) ?ra31
  case ha31 => intro w hSw; (try dsimp only at hSw); go_simp; (try with_reducible rfl)
  simp only [Act.put, List.getElem_toArray, List.getElem_cons_zero, List.getElem_cons_succ, List.setIfInBounds_toArray, List.set_cons_zero, List.set_cons_succ]
  refine wpAnyH_take (i := 32) (v := ?va32) rfl (by kernel_rfl) (by kernel_rfl) (by kernel_rfl) (fun _ _ _ h => h) (Or.inl ⟨by rfl, ?ha32⟩) (by assumption) ?ra32
  case ha32 => intro w hSw; (try dsimp only at hSw); go_simp; (try with_reducible rfl)
  simp only [Act.put, List.getElem_toArray, List.getElem_cons_zero, List.getElem_cons_succ, List.setIfInBounds_toArray, List.set_cons_zero, List.set_cons_succ]
  refine wpAnyH_take (i := 33) (v := ?va33) rfl (by kernel_rfl) (by kernel_rfl) (by kernel_rfl) (fun _ _ _ h => h) (Or.inl ⟨by rfl, ?ha33⟩) (by assumption) ?ra33
  case ha33 => intro w hSw; (try dsimp only at hSw); go_simp; (try with_reducible rfl)
  simp only [Act.put, List.getElem_toArray, List.getElem_cons_zero, List.getElem_cons_succ, List.setIfInBounds_toArray, List.set_cons_zero, List.set_cons_succ]
  refine wpAnyH_done (by kernel_rfl) ?_ _
  clear hH
  have hu0 : Below w5.heap.size w5 w5.drew := (Below.refl _ _).drew
  have x0w := x0
  have x1w := x1
  have x2w := x2
  have x5w := x5
  have y0w := y0
  have y1w := y1
  have y2w := y2
  have y5w := y5
  have p0w := p0
  have p1w := p1
  have r0w := r0
  have r1w := r1
  have x0 := (hu0.cell (p := ⟨w1.heap.size, 0, none⟩) lt1).trans x0
  have x1 := (hu0.cell (p := ⟨w1.heap.size, 1, none⟩) lt1).trans x1
  have x2 := (hu0.cell (p := ⟨w1.heap.size, 2, none⟩) lt1).trans x2
  have x5 := (hu0.cell (p := ⟨w1.heap.size, 5, none⟩) lt1).trans x5
  have y0 := (hu0.cell (p := ⟨w2.heap.size, 0, none⟩) lt2).trans y0
  have y1 := (hu0.cell (p := ⟨w2.heap.size, 1, none⟩) lt2).trans y1
  have y2 := (hu0.cell (p := ⟨w2.heap.size, 2, none⟩) lt2).trans y2
  have y5 := (hu0.cell (p := ⟨w2.heap.size, 5, none⟩) lt2).trans y5
  have p0 := (hu0.cell (p := ⟨g1, 0, none⟩) lt3).trans p0
  have p1 := (hu0.cell (p := ⟨g1, 1, none⟩) lt3).trans p1
  have r0 := (hu0.cell (p := ⟨g2, 0, none⟩) lt4).trans r0
  have r1 := (hu0.cell (p := ⟨g2, 1, none⟩) lt4).trans r1
  have lu0 : w5.heap.size ≤ w5.drew.heap.size := Nat.le_refl _
  obtain ⟨u0, hu⟩ : ∃ u, w5.drew = u := ⟨_, rfl⟩
  rw [hu] at hu0 lu0 x0 x1 x2 x5 y0 y1 y2 y5 p0 p1 r0 r1 ⊢
  clear hu
  go_upto_region 11 with (fail)
  have HC0 := Lib.hid (fun w' (hb : Below w5.heap.size w5 w') => same_any _ _ Ra.2.2.o0 Ra.2.2.o0 w' w5.heap.size hb.size (QL1.out.mono hb (Nat.le_refl _)) (QL2.out.mono hb (Nat.le_refl _)) HLE.out.1)
  rw [decide_eq_true rfl] at HC0
  have HC1 := Lib.hid (fun w' (hb : Below w5.heap.size w5 w') => same_any _ _ Ra.2.2.o1 Ra.2.2.o1 w' w5.heap.size hb.size (QH1.out.mono hb (Nat.le_refl _)) (QH2.out.mono hb (Nat.le_refl _)) HLE.out.2)
  rw [decide_eq_true rfl] at HC1
  have HC2 := Lib.hid (fun w' (hb : Below w5.heap.size w5 w') => same_any _ _ Ra.2.2.lo Ra.2.2.lo w' w5.heap.size hb.size (QA1.out.mono hb (Nat.le_refl _)) (QA2.out.mono hb (Nat.le_refl _)) (by rw [HLA.out.1]; omega))
  rw [decide_eq_true rfl] at HC2
  have HC3 := Lib.hid (fun w' (hb : Below w5.heap.size w5 w') => same_any _ _ Ra.2.2.hi Ra.2.2.hi w' w5.heap.size hb.size (QB1.out.mono hb (Nat.le_refl _)) (QB2.out.mono hb (Nat.le_refl _)) (by rw [HLA.out.2.1]; omega))
  rw [decide_eq_true rfl] at HC3
  refine wp_region_held_drew (S := fun w' => w'.cell? ⟨w1.heap.size, 0, none⟩ = some (.int .i64 Ra.1) ∧ w'.cell? ⟨w1.heap.size, 1, none⟩ = some (.slice Al1 Ra.2.2.o0.length cl1) ∧ w'.cell? ⟨w1.heap.size, 2, none⟩ = some (.slice Ah1 Ra.2.2.o1.length ch1) ∧ w'.cell? ⟨w1.heap.size, 5, none⟩ = some (.int .i64 Ra.2.1) ∧ w'.cell? ⟨w2.heap.size, 0, none⟩ = some (.int .i64 Ra.1) ∧ w'.cell? ⟨w2.heap.size, 1, none⟩ = some (.slice Al2 Ra.2.2.o0.length cl2) ∧ w'.cell? ⟨w2.heap.size, 2, none⟩ = some (.slice Ah2 Ra.2.2.o1.length ch2) ∧ w'.cell? ⟨w2.heap.size, 5, none⟩ = some (.int .i64 Ra.2.1) ∧ w'.cell? ⟨g1, 0, none⟩ = some (.slice Aa1 lo ka1) ∧ w'.cell? ⟨g1, 1, none⟩ = some (.slice Ab1 hi kb1) ∧ w'.cell? ⟨g2, 0, none⟩ = some (.slice Aa2 lo ka2) ∧ w'.cell? ⟨g2, 1, none⟩ = some (.slice Ab2 hi kb2)) mw.mixed ⟨x0, x1, x2, x5, y0, y1, y2, y5, p0, p1, r0, r1⟩ (fun hH => ?_)
  have hz0 := hu0.drew
  refine wpAnyH_take (i := 0) (v := ?vb00) rfl (by kernel_rfl) (by kernel_rfl) (by kernel_rfl) (fun _ _ _ h => h) (Or.inl ⟨by rfl, ?hb00⟩) (by assumption) ?rb00
  case hb00 => intro w hSw; (try dsimp only at hSw); go_simp; (try with_reducible rfl)
  simp only [Act.put, List.getElem_toArray, List.getElem_cons_zero, List.setIfInBounds_toArray, List.set_cons_zero, List.set_cons_succ]
  refine wpAnyH_take (i := 1) (v := ?vb01) rfl (by kernel_rfl) (by kernel_rfl) (by kernel_rfl) (fun _ _ _ h => h) (Or.inl ⟨by rfl, ?hb01⟩) (by assumption) ?rb01
  case hb01 => intro w hSw; (try dsimp only at hSw); go_simp; (try with_reducible rfl)
  simp only [Act.put, List.getElem_toArray, List.getElem_cons_zero, List.getElem_cons_succ, List.setIfInBounds_toArray, List.set_cons_zero, List.set_cons_succ]
  refine wpAnyH_take (i := 2) (v := ?vb02) rfl (by kernel_rfl) (by kernel_rfl) (by kernel_rfl) (fun _ _ _ h => h) (Or.inl ⟨by rfl, ?hb02⟩) (by assumption) ?rb02
  case hb02 => intro w hSw; (try dsimp only at hSw); go_simp; (try with_reducible rfl)
  simp only [Act.put, List.getElem_toArray, List.getElem_cons_zero, List.getElem_cons_succ, List.setIfInBounds_toArray, List.set_cons_zero, List.set_cons_succ]
  refine wpAnyH_take (i := 3) (v := ?vb03) rfl (by kernel_rfl) (by kernel_rfl) (by kernel_rfl) (fun _ _ _ h => h) (Or.inl ⟨by rfl, ?hb03⟩) (by assumption) ?rb03
  case hb03 => intro w hSw; (try dsimp only at hSw); go_simp; (try with_reducible rfl)
  simp only [Act.put, List.getElem_toArray, List.getElem_cons_zero, List.getElem_cons_succ, List.setIfInBounds_toArray, List.set_cons_zero, List.set_cons_succ]
  refine wpAnyH_take (i := 4) (v := ?vb04) rfl (by kernel_rfl) (by kernel_rfl) (by kernel_rfl) (fun _ _ _ h => h) (Or.inl ⟨by rfl, ?hb04⟩) (by assumption) ?rb04
  case hb04 => intro w hSw; (try dsimp only at hSw); go_simp; (try with_reducible rfl)
  simp only [Act.put, List.getElem_toArray, List.getElem_cons_zero, List.getElem_cons_succ, List.setIfInBounds_toArray, List.set_cons_zero, List.set_cons_succ]
  refine wpAnyH_take (i := 5) (v := ?vb05) rfl (by kernel_rfl) (by kernel_rfl) (by kernel_rfl) (fun _ _ _ h => h) (Or.inl ⟨by rfl, ?hb05⟩) (by assumption) ?rb05
  case hb05 => intro w hSw; (try dsimp only at hSw); go_simp; (try with_reducible rfl)
  simp only [Act.put, List.getElem_toArray, List.getElem_cons_zero, List.getElem_cons_succ, List.setIfInBounds_toArray, List.set_cons_zero, List.set_cons_succ]
  refine wpAnyH_take (i := 6) (v := ?vb06) rfl (by kernel_rfl) (by kernel_rfl) (by kernel_rfl) (fun _ _ _ h => h) (Or.inl ⟨by rfl, ?hb06⟩) (by assumption) ?rb06
  case hb06 => intro w hSw; (try dsimp only at hSw); go_simp; (try with_reducible rfl)
  simp only [Act.put, List.getElem_toArray, List.getElem_cons_zero, List.getElem_cons_succ, List.setIfInBounds_toArray, List.set_cons_zero, List.set_cons_succ]
  refine wpAnyH_take (i := 7) (v := ?vb07) rfl (by kernel_rfl) (by kernel_rfl) (by kernel_rfl) (fun _ _ _ h => h) (Or.inl ⟨by rfl, ?hb07⟩) (by assumption) ?rb07
  case hb07 => intro w hSw; (try dsimp only at hSw); go_simp; (try with_reducible rfl)
  simp only [Act.put, List.getElem_toArray, List.getElem_cons_zero, List.getElem_cons_succ, List.setIfInBounds_toArray, List.set_cons_zero, List.set_cons_succ]
  refine wpAnyH_take (i := 8) (v := ?vb08) rfl (by kernel_rfl) (by kernel_rfl) (by kernel_rfl) (fun _ _ _ h => h) (Or.inl ⟨by rfl, ?hb08⟩) (by assumption) ?rb08
  case hb08 => intro w hSw; (try dsimp only at hSw); go_simp; (try with_reducible rfl)
  simp only [Act.put, List.getElem_toArray, List.getElem_cons_zero, List.getElem_cons_succ, List.setIfInBounds_toArray, List.set_cons_zero, List.set_cons_succ]
  refine wpAnyH_take (i := 9) (v := ?vb09) rfl (by kernel_rfl) (by kernel_rfl) (by kernel_rfl) (fun _ _ _ h => h) (Or.inl ⟨by rfl, ?hb09⟩) (by assumption) ?rb09
  case hb09 => intro w hSw; (try dsimp only at hSw); go_simp; (try with_reducible rfl)
  simp only [Act.put, List.getElem_toArray, List.getElem_cons_zero, List.getElem_cons_succ, List.setIfInBounds_toArray, List.set_cons_zero, List.set_cons_succ]
  refine wpAnyH_take (i := 10) (v := ?vb010) rfl (by kernel_rfl) (by kernel_rfl) (by kernel_rfl) (fun _ _ _ h => h) (Or.inl ⟨by rfl, ?hb010⟩) (by assumption) ?rb010
  case hb010 => intro w hSw; (try dsimp only at hSw); go_simp; (try with_reducible rfl)
  simp only [Act.put, List.getElem_toArray, List.getElem_cons_zero, List.getElem_cons_succ, List.setIfInBounds_toArray, List.set_cons_zero, List.set_cons_succ]
  refine wpAnyH_take (i := 11) (v := ?vb011) rfl (by kernel_rfl) (by kernel_rfl) (by kernel_rfl) (fun _ _ _ h => h) (Or.inl ⟨by rfl, ?hb011⟩) (by assumption) ?rb011
  case hb011 => intro w hSw; (try dsimp only at hSw); go_simp; (try with_reducible rfl)
  simp only [Act.put, List.getElem_toArray, List.getElem_cons_zero, List.getElem_cons_succ, List.setIfInBounds_toArray, List.set_cons_zero, List.set_cons_succ]
  refine wpAnyH_take (i := 12) (v := ?vb012) rfl (by kernel_rfl) (by kernel_rfl) (by kernel_rfl) (fun _ _ _ h => h) (Or.inl ⟨by rfl, ?hb012⟩) (by assumption) ?rb012
  case hb012 => intro w hSw; (try dsimp only at hSw); go_simp; (try with_reducible rfl)
  simp only [Act.put, List.getElem_toArray, List.getElem_cons_zero, List.getElem_cons_succ, List.setIfInBounds_toArray, List.set_cons_zero, List.set_cons_succ]
  refine wpAnyH_take (i := 13) (v := ?vb013) rfl (by kernel_rfl) (by kernel_rfl) (by kernel_rfl) (fun _ _ _ h => h) (Or.inl ⟨by rfl, ?hb013⟩) (by assumption) ?rb013
  case hb013 => intro w hSw; (try dsimp only at hSw); go_simp; (try with_reducible rfl)
  simp only [Act.put, List.getElem_toArray, List.getElem_cons_zero, List.getElem_cons_succ, List.setIfInBounds_toArray, List.set_cons_zero, List.set_cons_succ]
  refine wpAnyH_take (i := 14) (v := ?vb014) rfl (by kernel_rfl) (by kernel_rfl) (by kernel_rfl) (fun _ _ _ h => h) (Or.inl ⟨by rfl, ?hb014⟩) (by assumption) ?rb014
  case hb014 => intro w hSw; (try dsimp only at hSw); go_simp; (try with_reducible rfl)
  simp only [Act.put, List.getElem_toArray, List.getElem_cons_zero, List.getElem_cons_succ, List.setIfInBounds_toArray, List.set_cons_zero, List.set_cons_succ]
  refine wpAnyH_take (i := 15) (v := ?vb015) rfl (by kernel_rfl) (by kernel_rfl) (by kernel_rfl) (fun _ _ _ h => h) (Or.inl ⟨by rfl, ?hb015⟩) (by assumption) ?rb015
  case hb015 => intro w hSw; (try dsimp only at hSw); go_simp; (try with_reducible rfl)
  simp only [Act.put, List.getElem_toArray, List.getElem_cons_zero, List.getElem_cons_succ, List.setIfInBounds_toArray, List.set_cons_zero, List.set_cons_succ]
  refine wpAnyH_take (i := 16) (v := ?vb016) rfl (by kernel_rfl) (by kernel_rfl) (by kernel_rfl) (fun _ _ _ h => h) (Or.inl ⟨by rfl, ?hb016⟩) (by assumption) ?rb016
  case hb016 => intro w hSw; (try dsimp only at hSw); go_simp; (try with_reducible rfl)
  simp only [Act.put, List.getElem_toArray, List.getElem_cons_zero, List.getElem_cons_succ, List.setIfInBounds_toArray, List.set_cons_zero, List.set_cons_succ]
  refine wpAnyH_ready (rs := [17]) (by kernel_rfl) (by simp) ?_
  refine AllReadyH.cons rfl (fun K2 hK2 => ?_) AllReadyH.nil
  go_simp
  refine (HC0.out _ hz0).mono ?_
  rintro e z1 ⟨rfl, hbz1⟩
  have hz1 := hz0.trans (hbz1.mono hz0.size)
  clear hbz1
  refine hK2.out _ _ ⟨(hz1.cell (p := ⟨w1.heap.size, 0, none⟩) lt1).trans x0w, (hz1.cell (p := ⟨w1.heap.size, 1, none⟩) lt1).trans x1w, (hz1.cell (p := ⟨w1.heap.size, 2, none⟩) lt1).trans x2w, (hz1.cell (p := ⟨w1.heap.size, 5, none⟩) lt1).trans x5w, (hz1.cell (p := ⟨w2.heap.size, 0, none⟩) lt2).trans y0w, (hz1.cell (p := ⟨w2.heap.size, 1, none⟩) lt2).trans y1w, (hz1.cell (p := ⟨w2.heap.size, 2, none⟩) lt2).trans y2w, (hz1.cell (p := ⟨w2.heap.size, 5, none⟩) lt2).trans y5w, (hz1.cell (p := ⟨g1, 0, none⟩) lt3).trans p0w, (hz1.cell (p := ⟨g1, 1, none⟩) lt3).trans p1w, (hz1.cell (p := ⟨g2, 0, none⟩) lt4).trans r0w, (hz1.cell (p := ⟨g2, 1, none⟩) lt4).trans r1w⟩ (fun hHx => ?_)
  clear hK2 K2
  try simp only [Act.put, List.getElem_toArray, List.getElem_cons_zero, List.getElem_cons_succ, List.setIfInBounds_toArray, List.set_cons_zero, List.set_cons_succ]
  refine wpAnyH_take (i := 18) (v := ?vb018) rfl (by kernel_rfl) (by kernel_rfl) (by kernel_rfl) (fun _ _ _ h => h) (Or.inl ⟨by rfl, ?hb018⟩) (by assumption) ?rb018
  case hb018 => intro w hSw; (try dsimp only at hSw); go_simp; (try with_reducible rfl)
  simp only [Act.put, List.getElem_toArray, List.getElem_cons_zero, List.getElem_cons_succ, List.setIfInBounds_toArray, List.set_cons_zero, List.set_cons_succ]
  refine wpAnyH_take (i := 19) (v := ?vb019) rfl (by kernel_rfl) (by kernel_rfl) (by kernel_rfl) (fun _ _ _ h => h) (Or.inl ⟨by rfl, ?hb019⟩) (by assumption) ?rb019
  case hb019 => intro w hSw; (try dsimp only at hSw); go_simp; (try with_reducible rfl)
  simp only [Act.put, List.getElem_toArray, List.getElem_cons_zero, List.getElem_cons_succ, List.setIfInBounds_toArray, List.set_cons_zero, List.set_cons_succ]
  refine wpAnyH_take (i := 20) (v := ?vb020) rfl (by kernel_rfl) (by kernel_rfl) (by kernel_rfl) (fun _ _ _ h => h) (Or.inl ⟨by rfl, ?hb020⟩) (by assumption) ?rb020
  case hb020 => intro w hSw; (try dsimp only at hSw); go_simp; (try with_reducible rfl)
  simp only [Act.put, List.getElem_toArray, List.getElem_cons_zero, List.getElem_cons_succ, List.setIfInBounds_toArray, List.set_cons_zero, List.set_cons_succ]
  refine wpAnyH_take (i := 21) (v := ?vb021) rfl (by kernel_rfl) (by kernel_rfl) (by kernel_rfl) (fun _ _ _ h => h) (Or.inl ⟨by rfl, ?hb021⟩) (by assumption) ?rb021
  case hb021 => intro w hSw; (try dsimp only at hSw); go_simp; (try with_reducible rfl)
  simp only [Act.put, List.getElem_toArray, List.getElem_cons_zero, List.getElem_cons_succ, List.setIfInBounds_toArray, List.set_cons_zero, List.set_cons_succ]
  refine wpAnyH_take (i := 22) (v := ?vb022) rfl (by kernel_rfl) (by kernel_rfl) (by kernel_rfl) (fun _ _ _ h => h) (Or.inl ⟨by rfl, ?hb022⟩) (by assumption) ?rb022
  case hb022 => intro w hSw; (try dsimp only at hSw); go_simp; (try with_reducible rfl)
  simp only [Act.put, List.getElem_toArray, List.getElem_cons_zero, List.getElem_cons_succ, List.setIfInBounds_toArray, List.set_cons_zero, List.set_cons_succ]
  refine wpAnyH_take (i := 23) (v := ?vb023) rfl (by kernel_rfl) (by kernel_rfl) (by kernel_rfl) (fun _ _ _ h => h) (Or.inl ⟨by rfl, ?hb023⟩) (by assumption) ?rb023
  case hb023 => intro w hSw; (try dsimp only at hSw); go_simp; (try with_reducible rfl)
  simp only [Act.put, List.getElem_toArray, List.getElem_cons_zero, List.getElem_cons_succ, List.setIfInBounds_toArray, List.set_cons_zero, List.set_cons_succ]
  refine wpAnyH_ready (rs := [24]) (by kernel_rfl) (by simp) ?_
  refine AllReadyH.cons rfl (fun K2 hK2 => ?_) AllReadyH.nil
  go_simp
  refine (HC1.out _ hz1).mono ?_
  rintro e z2 ⟨rfl, hbz2⟩
  have hz2 := hz1.trans (hbz2.mono hz1.size)
  clear hbz2
  refine hK2.out _ _ ⟨(hz2.cell (p := ⟨w1.heap.size, 0, none⟩) lt1).trans x0w, (hz2.cell (p := ⟨w1.heap.size, 1, none⟩) lt1).trans x1w, (hz2.cell (p := ⟨w1.heap.size, 2, none⟩) lt1).trans x2w, (hz2.cell (p := ⟨w1.heap.size, 5, none⟩) lt1).trans x5w, (hz2.cell (p := ⟨w2.heap.size, 0, none⟩) lt2).trans y0w, (hz2.cell (p := ⟨w2.heap.size, 1, none⟩) lt2).trans y1w, (hz2.cell (p := ⟨w2.heap.size, 2, none⟩) lt2).trans y2w, (hz2.cell (p := ⟨w2.heap.size, 5, none⟩) lt2).trans y5w, (hz2.cell (p := ⟨g1, 0, none⟩) lt3).trans p0w, (hz2.cell (p := ⟨g1, 1, none⟩) lt3).trans p1w, (hz2.cell (p := ⟨g2, 0, none⟩) lt4).trans r0w, (hz2.cell (p := ⟨g2, 1, none⟩) lt4).trans r1w⟩ (fun hHx => ?_)
  clear hK2 K2
  try simp only [Act.put, List.getElem_toArray, List.getElem_cons_zero, List.getElem_cons_succ, List.setIfInBounds_toArray, List.set_cons_zero, List.set_cons_succ]
  refine wpAnyH_take (i := 25) (v := ?vb125) rfl (by kernel_rfl) (by kernel_rfl) (by kernel_rfl) (fun _ _ _ h => h) (Or.inl ⟨by rfl, ?hb125⟩) (by assumption) ?rb125
  case hb125 => intro w hSw; (try dsimp only at hSw); go_simp; (try with_reducible rfl)
  simp only [Act.put, List.getElem_toArray, List.getElem_cons_zero, List.getElem_cons_succ, List.setIfInBounds_toArray, List.set_cons_zero, List.set_cons_succ]
  refine wpAnyH_take (i := 26) (v := ?vb126) rfl (by kernel_rfl) (by kernel_rfl) (by kernel_rfl) (fun _ _ _ h => h) (Or.inl ⟨by rfl, ?hb126⟩) (by assumption) ?rb126
  case hb126 => intro w hSw; (try dsimp only at hSw); go_simp; (try with_reducible rfl)
  simp only [Act.put, List.getElem_toArray, List.getElem_cons_zero, List.getElem_cons_succ, List.setIfInBounds_toArray, List.set_cons_zero, List.set_cons_succ]
  refine wpAnyH_take (i := 27) (v := ?vb127) rfl (by kernel_rfl) (by kernel_rfl) (by kernel_rfl) (fun _ _ _ h => h) (Or.inl ⟨by rfl, ?hb127⟩) (by assumption) ?rb127
  case hb127 => intro w hSw; (try dsimp only at hSw); go_simp; (try with_reducible rfl)
  simp only [Act.put, List.getElem_toArray, List.getElem_cons_zero, List.getElem_cons_succ, List.setIfInBounds_toArray, List.set_cons_zero, List.set_cons_succ]
  refine wpAnyH_take (i := 28) (v := ?vb128) rfl (by kernel_rfl) (by kernel_rfl) (by kernel_rfl) (fun _ _ _ h => h) (Or.inl ⟨by rfl, ?hb128⟩) (by assumption) ?rb128
  case hb128 => intro w hSw; (try dsimp only at hSw); go_simp; (try with_reducible rfl)
  simp only [Act.put, List.getElem_toArray, List.getElem_cons_zero, List.getElem_cons_succ, List.setIfInBounds_toArray, List.set_cons_zero, List.set_cons_succ]
  refine wpAnyH_take (i := 29) (v := ?vb129) rfl (by kernel_rfl) (by kernel_rfl) (by kernel_rfl) (fun _ _ _ h => h) (Or.inl ⟨by rfl, ?hb129⟩) (by assumption) ?rb129
  case hb129 => intro w hSw; (try dsimp only at hSw); go_simp; (try with_reducible rfl)
  simp only [Act.put, List.getElem_toArray, List.getElem_cons_zero, List.getElem_cons_succ, List.setIfInBounds_toArray, List.set_cons_zero, List.set_cons_succ]
  refine wpAnyH_take (i := 30) (v := ?vb130) rfl (by kernel_rfl) (by kernel_rfl) (by kernel_rfl) (fun _ _ _ h => h) (Or.inl ⟨by rfl, ?hb130⟩) (by assumption) ?rb130
  case hb130 => intro w hSw; (try dsimp only at hSw); go_simp; (try with_reducible rfl)
  simp only [Act.put, List.getElem_toArray, List.getElem_cons_zero, List.getElem_cons_succ, List.setIfInBounds_toArray, List.set_cons_zero, List.set_cons_succ]
  refine wpAnyH_take (i := 31) (v := ?vb131) rfl (by kernel_rfl) (by kernel_rfl) (by kernel_rfl) (fun _ _ _ h => h) (Or.inl ⟨by rfl, ?hb131⟩) (by assumption) ?rb131
  case hb131 => intro w hSw; (try dsimp only at hSw); go_simp; (try with_reducible rfl)
  simp only [Act.put, List.getElem_toArray, List.getElem_cons_zero, List.getElem_cons_succ, List.setIfInBounds_toArray, List.set_cons_zero, List.set_cons_succ]
  refine wpAnyH_take (i := 32) (v := ?vb132) rfl (by kernel_rfl) (by kernel_rfl) (by kernel_rfl) (fun _ _ _ h => h) (Or.inl ⟨by rfl, ?hb132⟩) (by assumption) ?rb132
  case hb132 => intro w hSw; (try dsimp only at hSw); go_simp; (try with_reducible rfl)
  simp only [Act.put, List.getElem_toArray, List.getElem_cons_zero, List.getElem_cons_succ, List.setIfInBounds_toArray, List.set_cons_zero, List.set_cons_succ]
  refine wpAnyH_ready (rs := [33]) (by kernel_rfl) (by simp) ?_
  refine AllReadyH.cons rfl (fun K2 hK2 => ?_) AllReadyH.nil
  go_simp
  refine (HC2.out _ hz2).mono ?_
  rintro e z3 ⟨rfl, hbz3⟩
  have hz3 := hz2.trans (hbz3.mono hz2.size)
  clear hbz3
  refine hK2.out _ _ ⟨(hz3.cell (p := ⟨w1.heap.size, 0, none⟩) lt1).trans x0w, (hz3.cell (p := ⟨w1.heap.size, 1, none⟩) lt1).trans x1w, (hz3.cell (p := ⟨w1.heap.size, 2, none⟩) lt1).trans x2w, (hz3.cell (p := ⟨w1.heap.size, 5, none⟩) lt1).trans x5w, (hz3.cell (p := ⟨w2.heap.size, 0, none⟩) lt2).trans y0w, (hz3.cell (p := ⟨w2.heap.size, 1, none⟩) lt2).trans y1w, (hz3.cell (p := ⟨w2.heap.size, 2, none⟩) lt2).trans y2w, (hz3.cell (p := ⟨w2.heap.size, 5, none⟩) lt2).trans y5w, (hz3.cell (p := ⟨g1, 0, none⟩) lt3).trans p0w, (hz3.cell (p := ⟨g1, 1, none⟩) lt3).trans p1w, (hz3.cell (p := ⟨g2, 0, none⟩) lt4).trans r0w, (hz3.cell (p := ⟨g2, 1, none⟩) lt4).trans r1w⟩ (fun hHx => ?_)
  clear hK2 K2
  try simp only [Act.put, List.getElem_toArray, List.getElem_cons_zero, List.getElem_cons_succ, List.setIfInBounds_toArray, List.set_cons_zero, List.set_cons_succ]
  refine wpAnyH_take (i := 34) (v := ?vb234) rfl (by kernel_rfl) (by kernel_rfl) (by kernel_rfl) (fun _ _ _ h => h) (Or.inl ⟨by rfl, ?hb234⟩) (by assumption) ?rb234
  case hb234 => intro w hSw; (try dsimp only at hSw); go_simp; (try with_reducible rfl)
  simp only [Act.put, List.getElem_toArray, List.getElem_cons_zero, List.getElem_cons_succ, List.setIfInBounds_toArray, List.set_cons_zero, List.set_cons_succ]
  refine wpAnyH_take (i := 35) (v := ?vb235) rfl (by kernel_rfl) (by kernel_rfl) (by kernel_rfl) (fun _ _ _ h => h) (Or.inl ⟨by rfl, ?hb235⟩) (by assumption) ?rb235
  case hb235 => intro w hSw; (try dsimp only at hSw); go_simp; (try with_reducible rfl)
  simp only [Act.put, List.getElem_toArray, List.getElem_cons_zero, List.getElem_cons_succ, List.setIfInBounds_toArray, List.set_cons_zero, List.set_cons_succ]
  refine wpAnyH_take (i := 36) (v := ?vb236) rfl (by kernel_rfl) (by kernel_rfl) (by kernel_rfl) (fun _ _ _ h => h) (Or.inl ⟨by rfl, ?hb236⟩) (by assumption) ?rb236
  case hb236 => intro w hSw; (try dsimp only at hSw); go_simp; (try with_reducible rfl)
  simp only [Act.put, List.getElem_toArray, List.getElem_cons_zero, List.getElem_cons_succ, List.setIfInBounds_toArray, List.set_cons_zero, List.set_cons_succ]
  refine wpAnyH_take (i := 37) (v := ?vb237) rfl (by kernel_rfl) (by kernel_rfl) (by kernel_rfl) (fun _ _ _ h => h) (Or.inl ⟨by rfl, ?hb237⟩) (by assumption) ?rb237
  case hb237 => intro w hSw; (try dsimp only at hSw); go_simp; (try with_reducible rfl)
  simp only [Act.put, List.getElem_toArray, List.getElem_cons_zero, List.getElem_cons_succ, List.setIfInBounds_toArray, List.set_cons_zero, List.set_cons_succ]
  refine wpAnyH_take (i := 38) (v := ?vb238) rfl (by kernel_rfl) (by kernel_rfl) (by kernel_rfl) (fun _ _ _ h => h) (Or.inl ⟨by rfl, ?hb238⟩) (by assumption) ?rb238
  case hb238 => intro w hSw; (try dsimp only at hSw); go_simp; (try with_reducible rfl)
  simp only [Act.put, List.getElem_toArray, List.getElem_cons_zero, List.getElem_cons_succ, List.setIfInBounds_toArray, List.set_cons_zero, List.set_cons_succ]
  refine wpAnyH_take (i := 39) (v := ?vb239) rfl (by kernel_rfl) (by kernel_rfl) (by kernel_rfl) (fun _ _ _ h => h) (Or.inl ⟨by rfl, ?hb239⟩) (by assumption) ?rb239
  case hb239 => intro w hSw; (try dsimp only at hSw); go_simp; (try with_reducible rfl)
  simp only [Act.put, List.getElem_toArray, List.getElem_cons_zero, List.getElem_cons_succ, List.setIfInBounds_toArray, List.set_cons_zero, List.set_cons_succ]
  refine wpAnyH_take (i := 40) (v := ?vb240) rfl (by kernel_rfl) (by kernel_rfl) (by kernel_rfl) (fun _ _ _ h => h) (Or.inl ⟨by rfl, ?hb240⟩) (by assumption) ?rb240
  case hb240 => intro w hSw; (try dsimp only at hSw); go_simp; (try with_reducible rfl)
  simp only [Act.put, List.getElem_toArray, List.getElem_cons_zero, List.getElem_cons_succ, List.setIfInBounds_toArray, List.set_cons_zero, List.set_cons_succ]
  refine wpAnyH_take (i := 41) (v := ?vb241) rfl (by kernel_rfl) (by kernel_rfl) (by kernel_rfl) (fun _ _ _ h => h) (Or.inl ⟨by rfl, ?hb241⟩) (by assumption) ?rb241
  case hb241 => intro w hSw; (try dsimp only at hSw); go_simp; (try with_reducible rfl)
  simp only [Act.put, List.getElem_toArray, List.getElem_cons_zero, List.getElem_cons_succ, List.setIfInBounds_toArray, List.set_cons_zero, List.set_cons_succ]
  refine wpAnyH_ready (rs := [42]) (by kernel_rfl) (by simp) ?_
  refine AllReadyH.cons rfl (fun K2 hK2 => ?_) AllReadyH.nil
  go_simp
  refine (HC3.out _ hz3).mono ?_
  rintro e z4 ⟨rfl, hbz4⟩
  have hz4 := hz3.trans (hbz4.mono hz3.size)
  clear hbz4
  refine hK2.out _ _ ⟨(hz4.cell (p := ⟨w1.heap.size, 0, none⟩) lt1).trans x0w, (hz4.cell (p := ⟨w1.heap.size, 1, none⟩) lt1).trans x1w, (hz4.cell (p := ⟨w1.heap.size, 2, none⟩) lt1).trans x2w, (hz4.cell (p := ⟨w1.heap.size, 5, none⟩) lt1).trans x5w, (hz4.cell (p := ⟨w2.heap.size, 0, none⟩) lt2).trans y0w, (hz4.cell (p := ⟨w2.heap.size, 1, none⟩) lt2).trans y1w, (hz4.cell (p := ⟨w2.heap.size, 2, none⟩) lt2).trans y2w, (hz4.cell (p := ⟨w2.heap.size, 5, none⟩) lt2).trans y5w, (hz4.cell (p := ⟨g1, 0, none⟩) lt3).trans p0w, (hz4.cell (p := ⟨g1, 1, none⟩) lt3).trans p1w, (hz4.cell (p := ⟨g2, 0, none⟩) lt4).trans r0w, (hz4.cell (p := ⟨g2, 1, none⟩) lt4).trans r1w⟩ (fun hHx => ?_)
  clear hK2 K2
  try simp only [Act.put, List.getElem_toArray, List.getElem_cons_zero, List.getElem_cons_succ, List.setIfInBounds_toArray, List.set_cons_zero, List.set_cons_succ]
  refine wpAnyH_take (i := 43) (v := ?vb343) rfl (by kernel_rfl) (by kernel_rfl) (by kernel_rfl) (fun _ _ _ h => h) (Or.inl ⟨by rfl, ?hb343⟩) (by assumption) ?rb343
  case hb343 => intro w hSw; (try dsimp only at hSw); go_simp; (try with_reducible rfl)
  simp only [Act.put, List.getElem_toArray, List.getElem_cons_zero, List.getElem_cons_succ, List.setIfInBounds_toArray, List.set_cons_zero, List.set_cons_succ]
  refine wpAnyH_take (i := 44) (v := ?vb344) rfl (by kernel_rfl) (by kernel_rfl) (by kernel_rfl) (fun _ _ _ h => h) (Or.inl ⟨by rfl, ?hb344⟩) (by assumption) ?rb344
  case hb344 => intro w hSw; (try dsimp only at hSw); go_simp; (try with_reducible rfl)
  simp only [Act.put, List.getElem_toArray, List.getElem_cons_zero, List.getElem_cons_succ, List.setIfInBounds_toArray, List.set_cons_zero, List.set_cons_succ]
  refine wpAnyH_done (by kernel_rfl) ?_ _
  go_wp2_with fail
  go_ret
  exact ⟨rfl, HW.out.trans (hz4.mono HW.out.size)⟩
end mst
end Go.Proofs.Ytpcihajmcejliaa
namespace Go.Proofs.Ytpcihajmcejliaa
open Go.RowKit
open mst
namespace mst
theorem longer_any (v : Value) (code : List Ins) (lo hi : Int) (v0 v1 : Value) (i0 i1 : List Int) (few more : Int) (w : World) (hv : CodeAt w v code) (hok : ∀ i ∈ code, okI i.n) (q0 : InB w w.heap.size v0 i0) (q1 : InB w w.heap.size v1 i1) (k0 : ∀ x ∈ i0, okI x) (k1 : ∀ x ∈ i1, okI x) :
    Calls Try.prog 7 #[.agg #[v, .int .i64 lo, .int .i64 hi], v0, v1, .int .i64 few, .int .i64 more] w fun e w' => e = .returned (.bool true) ∧ Below w.heap.size w w' := by
  obtain ⟨A0, c0, e0⟩ := q0.len
  obtain ⟨A1, c1, e1⟩ := q1.len
  by_cases h0 : few < 0
  · exact longer_out1 v code lo hi v0 v1 few more w hv A0 A1 _ _ c0 c1 e0 e1 h0
  by_cases h1 : more < few
  · exact longer_out2 v code lo hi v0 v1 few more w hv A0 A1 _ _ c0 c1 e0 e1 h0 h1
  by_cases h2 : 5000 < more
  · exact longer_out3 v code lo hi v0 v1 few more w hv A0 A1 _ _ c0 c1 e0 e1 h0 h1 h2
  cases hm : mayB code lo hi
  · exact longer_form v code lo hi v0 v1 few more w hv A0 A1 _ _ c0 c1 e0 e1 hm (by omega) (by omega) (by omega)
  by_cases hn : 1000 < i0.length
  · exact longer_size1 v code lo hi v0 v1 few more w hv A0 A1 _ _ c0 c1 e0 e1 hm (by omega) (by omega) (by omega) hn
  by_cases hm2 : 1000 < i1.length
  · exact longer_size2 v code lo hi v0 v1 few more w hv A0 A1 _ _ c0 c1 e0 e1 hm (by omega) (by omega) (by omega) hn hm2
  have hmm := hm
  simp only [mayB, Bool.and_eq_true, decide_eq_true_eq] at hmm
  obtain ⟨lo, rfl⟩ : ∃ n : Nat, lo = n := ⟨lo.toNat, by omega⟩
  obtain ⟨hi, rfl⟩ : ∃ n : Nat, hi = n := ⟨hi.toNat, by omega⟩
  obtain ⟨few, rfl⟩ : ∃ n : Nat, few = n := ⟨few.toNat, by omega⟩
  obtain ⟨more, rfl⟩ : ∃ n : Nat, more = n := ⟨more.toNat, by omega⟩
  rcases hv with ⟨A, c, rfl, rfl⟩ | ⟨b, off, cap, rfl, hb, hbig, ho⟩
  · simp at hmm
  · by_cases hend : (runF code i0 i1 few (zeroM lo hi)).1 = 0
    · exact longer_fuel b off cap code lo hi v0 v1 i0 i1 few more w ho hb hm hok (by omega) (by omega) q0 q1 k0 k1 (by omega) (by omega) hbig hend
    · exact longer_end b off cap code lo hi v0 v1 i0 i1 few more w ho hb hm hok (by omega) (by omega) q0 q1 k0 k1 (by omega) (by omega) hbig hend
end mst
end Go.Proofs.Ytpcihajmcejliaa
